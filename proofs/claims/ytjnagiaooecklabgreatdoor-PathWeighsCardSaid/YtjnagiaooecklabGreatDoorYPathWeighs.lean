/-
  The law PathWeighs, it returns true for every input, and each argument reads behind the call as it read before. No condition.
-/
import Derived.Test.YtjnagiaooecklabGreatDoorG28
import Derived.Test.YtjnagiaooecklabGreatDoorG33
import Derived.Test.YtjnagiaooecklabGreatDoorG31
import Derived.Test.YtjnagiaooecklabGreatDoorG30
import Derived.Test.YtjnagiaooecklabGreatDoorG34
import Derived.Test.YtjnagiaooecklabGreatDoorCards
import Derived.Test.YtjnagiaooecklabGreatDoorTie
import Derived.Deep.DeepLaidRun
import Derived.Deep.DeepWitnessRowRef
import Derived.OpenShut
set_option linter.all false
set_option maxRecDepth 100000
namespace Go.Proofs.YtjnagiaooecklabGreatDoor
open Go.RowKit Go.ChangeShapes Go.WideShapes Go.WideElems Go.Hx
theorem own_pathWeighs : ownKnob Tryz.prog.godebug = none := by kernel_rfl
theorem contract_pathWeighs (H : Type) (enc : TypeId × Value → H) (W : World) (base : Nat) (args : Array Value) (ds gs : List (DataW H)) (before : List MemPlace)
    (hval : ∀ (j : Nat) t v, Tryz.f11.params[j]? = some t → args[j]? = some v → Value.okWide Tryz.prog W .any base t v)
    (hW : DataW.Whole enc Tryz.prog Tryz.f11.params.toList Rows.pathWeighsSpec.vars false W args.toList ds gs before)
    (hL : laidMetH Tryz.prog Rows.pathWeighsRow.laid W) (hsh : W.ShapedOpen Tryz.prog) :
    Calls Tryz.prog 11 args W fun e W' => ∃ v, e = .returned v ∧ Rows.pathWeighsSpec.post enc Tryz.prog Tryz.f11 false true false false W args v W' := by
  have hW' := hW
  obtain ⟨p, q, hA0, hV, rfl, hfz, hnd⟩ := hW
  have hA : DataW.TrodAll enc Tryz.prog W 0 (fun _ => true) true Tryz.f11.params.toList args.toList ds p := hA0
  rw [Tryz.params11] at hA hval
  obtain ⟨v0, vs0, d0, ds0, p0, q0, e0, rfl, rfl, h0, r0⟩ := trodAll_cons hA
  obtain ⟨rfl, rfl, rfl⟩ := trodAll_nil r0
  obtain rfl : args = #[v0] := by cases args; simp_all
  obtain ⟨x0, g0⟩ := a_path (hval 0 78 v0 rfl rfl) h0
  obtain ⟨rfl, rfl⟩ := trodVars_none hV
  have hC := (@zL9  x0).2 (memOf W) W [v0] memOf_ok ⟨_, _, rfl, g0, rfl⟩ (by intro g h; cases h) (numOk_of hL hsh) (by rintro b (h | h) <;> cases h)
  refine hC.mono fun e W' ⟨m', _, _, hp, _, _, u, hu, hr⟩ => ?_
  obtain rfl : u = .bool true := hr.1
  refine ⟨.bool true, hu, ?_⟩
  exact law_post (tb := 4) hW' rfl rfl (by kernel_rfl) (by kernel_rfl) (by kernel_rfl) (by rw [Tryz.params11]; intro t ht; simp only [List.mem_cons, List.not_mem_nil, or_false] at ht; subst ht <;> exact ⟨by kernel_rfl, of_decide_eq_true (by kernel_rfl)⟩) hp (by intro b h; rcases h with h | h <;> cases h)
theorem laid_met_pathWeighs (os : Os) : laidMet Tryz.prog Rows.pathWeighsRow.laid ((laidN os).forCall (fun _ _ => 0) ⟨#[], #[.agg #[.slice none 0 0, .slice none 0 0]], []⟩).memory :=
  laidMet_of_run3 8 (by kernel_rfl) (by kernel_rfl) (by kernel_rfl)
theorem reads_pathWeighs (os : Os) {H : Type} (enc : TypeId × Value → H) : ∃ places, DataW.whole enc Tryz.prog ((laidN os).forCall (fun _ _ => 0) ⟨#[], #[.agg #[.slice none 0 0, .slice none 0 0]], []⟩).memory Tryz.f11.params.toList Rows.pathWeighsSpec.vars false (#[.agg #[.slice none 0 0, .slice none 0 0]] : Array Value).toList 8 = some ([.agg [.nil, .nil]], [], places) :=
  ⟨[], by kernel_rfl⟩
theorem lifted_pathWeighs (os : Os) (started : os.Started) (H : Type) (enc : TypeId × Value → H) (F : Stop.Interp) :
    ReturnsInHanded {} Tryz.checked os 11 .any ((OpenSpec.ofChange Rows.pathWeighsSpec).preRow enc Tryz.prog Tryz.f11 Rows.pathWeighsRow.domain false Rows.pathWeighsRow.laid) (((OpenSpec.ofChange Rows.pathWeighsSpec).at F).post enc Tryz.prog Tryz.f11 false true false false) := by
  obtain ⟨places, hx⟩ := reads_pathWeighs os enc
  refine returnsInHanded_of_row (C := Tryz.checked) (s := OpenSpec.ofChange Rows.pathWeighsSpec) own_pathWeighs started (by kernel_rfl) Tryz.func11
    (witness_row_atRef (enc := enc) (C := Tryz.checked) false (laidN os) #[.agg #[.slice none 0 0, .slice none 0 0]] rfl (by kernel_rfl) (by kernel_rfl) (by kernel_rfl)
      (OpenSpec.preRow_of_cond 8 hx (by kernel_rfl) (fun k hk => by cases hk) (by kernel_rfl) (laid_met_pathWeighs os))) ?_
  intro W base args ds gs before hval hW _ hcond _ hL hsh _
  exact contract_pathWeighs H enc W base args ds gs before hval hW hL hsh
theorem in_pathWeighs : (Rows.pathWeighsRow.inPlace == Tryz.pinned.checked.prog.inPlace 11) = true := by kernel_rfl
theorem unf_pathWeighs : (Rows.pathWeighsRow.unfollowed == Tryz.pinned.checked.prog.unfollowed 11) = true := by kernel_rfl
theorem rec_pathWeighs : (Rows.pathWeighsRow.recurses == Tryz.pinned.checked.prog.recurses 11) = true := by kernel_rfl
theorem nam_pathWeighs : (Rows.pathWeighsRow.named == Tryz.pinned.checked.prog.varsNamed 11) = true := by kernel_rfl
theorem lif_pathWeighs : (Rows.pathWeighsRow.lifted == Tryz.pinned.checked.prog.liftsFinal) = true := by kernel_rfl
theorem mak_pathWeighs : (Tryz.pinned.checked.prog.make == some Rows.pathWeighsRow.make) = true := by kernel_rfl
theorem key_pathWeighs : (Rows.pathWeighsRow.plainKeys == Tryz.pinned.checked.prog.plainKeys) = true := j_keys
theorem closed_pathWeighs : joinedFacts Tryz.pinned.checked.prog 11 Tryz.f11 (OpenSpec.ofChange Rows.pathWeighsSpec).bare Rows.pathWeighsRow = true := by
  simp only [joinedFacts, Bool.and_eq_true]
  repeat' with_reducible apply And.intro
  all_goals with_reducible first | exact j_laid | exact j_maps | exact j_heard | exact j_enter | exact j_stops | exact j_knobs | exact in_pathWeighs | exact unf_pathWeighs | exact rec_pathWeighs | exact nam_pathWeighs | exact lif_pathWeighs | exact mak_pathWeighs | exact key_pathWeighs | skip
  all_goals (as_aux_lemma => kernel_rfl)
theorem said_pathWeighs : Rows.PathWeighsSaid :=
  OpenClaim.holds_of_cond 11 Tryz.f11 rfl rfl rfl rfl rfl rfl rfl ⟨rfl, rfl, rfl, rfl, rfl⟩ rfl rfl rfl rfl rfl (by kernel_rfl) Tryz.func11 closed_pathWeighs
    (of_decide_eq_true (by kernel_rfl)) (by unfold Func.isWrapper; first | (rw [if_pos (by decide +kernel)]; kernel_rfl) | (rw [if_neg (by decide +kernel)]; exact ⟨rfl, rfl⟩))
    (fun os started H enc _ F => by rw [OpenClaim.pre_eq_preRow]; exact lifted_pathWeighs os started H enc F)
theorem plain_pathWeighs (f : FuncId) (fn : Func) (hf : Tryz.pinned.checked.prog.funcNamed Rows.pathWeighsRow.func = some f) (hfn : Tryz.pinned.checked.prog.funcs[f]? = some fn) :
    true = Tryz.pinned.checked.prog.looks [] ∧ ∀ (j : Nat) t, fn.params[j]? = some t → Tryz.pinned.checked.prog.wantsStandIn t = false := by
  obtain rfl : f = 11 := Option.some.inj ((show Tryz.prog.funcNamed Rows.pathWeighsRow.func = some 11 by kernel_rfl).symm.trans hf) |>.symm
  obtain rfl : fn = Tryz.f11 := (Option.some.inj (Tryz.func11.symm.trans hfn)).symm
  refine ⟨by kernel_rfl, fun j t ht => ?_⟩
  rw [Tryz.params11] at ht
  have hm := Array.mem_of_getElem? ht
  simp only [List.mem_toArray, List.mem_cons, List.not_mem_nil, or_false] at hm
  subst hm <;> first | exact (show Tryz.prog.wantsStandIn 78 = false by kernel_rfl)
theorem pathWeighs_card : Rows.PathWeighsCardSaid :=
  Claim7.holds_tied_plain_at .later [] _ _ _ _ said_pathWeighs (fun _ h => by cases h) (by kernel_rfl) (fun _ h => by cases h) pathWeighs_row_tie rfl ⟨rfl, rfl⟩ (by kernel_rfl) rfl plain_pathWeighs (by kernel_rfl)
#print axioms pathWeighs_card
end Go.Proofs.YtjnagiaooecklabGreatDoor
