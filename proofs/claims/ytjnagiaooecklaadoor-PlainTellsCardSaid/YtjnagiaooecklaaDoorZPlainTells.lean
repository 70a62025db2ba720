/-
  The law PlainTells: it returns true for every input, and each argument reads behind the call as it read before. No condition.
-/
import Derived.Test.YtjnagiaooecklaaDoorG24
import Derived.Test.YtjnagiaooecklaaDoorG11
import Derived.Test.YtjnagiaooecklaaDoorG23
import Derived.Test.YtjnagiaooecklaaDoorCards
import Derived.Test.YtjnagiaooecklaaDoorTie
import Derived.Deep.DeepLaidRun
import Derived.ProofKit
import Derived.OpenShut
set_option linter.all false
set_option maxRecDepth 100000
namespace Go.Proofs.YtjnagiaooecklaaDoor
open Go.RowKit Go.ChangeShapes Go.WideShapes Go.WideElems Go.Hx

theorem own_plainTells : ownKnob Tryd.prog.godebug = none := by kernel_rfl
theorem contract_plainTells (H : Type) (enc : TypeId × Value → H) (W : World) (base : Nat) (args : Array Value) (ds gs : List (DataW H)) (before : List MemPlace)
    (hval : ∀ (j : Nat) t v, Tryd.f7.params[j]? = some t → args[j]? = some v → Value.okWide Tryd.prog W .any base t v)
    (hW : DataW.Whole enc Tryd.prog Tryd.f7.params.toList Rows.plainTellsSpec.vars false W args.toList ds gs before) :
    Calls Tryd.prog 7 args W fun e W' => ∃ v, e = .returned v ∧ Rows.plainTellsSpec.post enc Tryd.prog Tryd.f7 false true false false W args v W' := by
  have hW' := hW
  obtain ⟨p, q, hA0, hV, rfl, hfz, hnd⟩ := hW
  have hA : DataW.TrodAll enc Tryd.prog W 0 (fun _ => true) true Tryd.f7.params.toList args.toList ds p := hA0
  rw [Tryd.params7] at hA hval
  obtain ⟨v0, vs0, d0, ds0, p0, q0, e0, rfl, rfl, h0, r0⟩ := trodAll_cons hA
  obtain ⟨rfl, rfl, rfl⟩ := trodAll_nil r0
  obtain rfl : args = #[v0] := by cases args; simp_all
  obtain ⟨x0, g0⟩ := a_paths (hval 0 51 v0 rfl rfl) h0
  obtain ⟨rfl, rfl⟩ := trodVars_none hV
  have hC := (@c_law_PlainTells glob0 x0).2 (memOf W) W [v0] memOf_ok ⟨_, _, rfl, g0, rfl⟩ (by intro g h; cases h) trivial (fun _ _ => Nat.zero_le _)
  refine hC.mono fun e W' ⟨m', _, _, hp, _, _, u, hu, hr⟩ => ?_
  obtain rfl : u = .bool true := hr.1
  refine ⟨.bool true, hu, ?_⟩
  exact law_post (tb := 4) hW' rfl rfl (by kernel_rfl) (by kernel_rfl) (by kernel_rfl) (by rw [Tryd.params7]; intro t ht; simp only [List.mem_cons, List.not_mem_nil, or_false] at ht; subst ht <;> exact ⟨by kernel_rfl, of_decide_eq_true (by kernel_rfl)⟩) hp (by intro b h; rcases h with h | h <;> cases h)

noncomputable def laidWorld_plainTells (os : Os) : World := laidW os
theorem laid_met_plainTells (os : Os) : laidMet Tryd.prog Rows.plainTellsRow.laid ((laidW os).forCall (fun _ _ => 0) ⟨#[], #[.slice none 0 0], []⟩).memory :=
  laidMet_of_run3 8 (by kernel_rfl) (by kernel_rfl) (by kernel_rfl)
theorem reads_plainTells (os : Os) {H : Type} (enc : TypeId × Value → H) : ∃ places, DataW.whole enc Tryd.prog ((laidW os).forCall (fun _ _ => 0) ⟨#[], #[.slice none 0 0], []⟩).memory Tryd.f7.params.toList Rows.plainTellsSpec.vars false (#[.slice none 0 0] : Array Value).toList 8 = some ([.nil], [], places) :=
  ⟨[], by kernel_rfl⟩
theorem lifted_plainTells (os : Os) (started : os.Started) (H : Type) (enc : TypeId × Value → H) (F : Stop.Interp) :
    ReturnsInHanded {} Tryd.checked os 7 .any ((OpenSpec.ofChange Rows.plainTellsSpec).preRow enc Tryd.prog Tryd.f7 Rows.plainTellsRow.domain false Rows.plainTellsRow.laid) (((OpenSpec.ofChange Rows.plainTellsSpec).at F).post enc Tryd.prog Tryd.f7 false true false false) := by
  obtain ⟨places, hx⟩ := reads_plainTells os enc
  refine returnsInHanded_of_row (C := Tryd.checked) (s := OpenSpec.ofChange Rows.plainTellsSpec) own_plainTells started (by kernel_rfl) Tryd.func7
    (witness_row_at (enc := enc) (C := Tryd.checked) false (laidW os) #[.slice none 0 0] rfl (by kernel_rfl) (by kernel_rfl) (by kernel_rfl)
      (OpenSpec.preRow_of_cond 8 hx (by kernel_rfl) (fun k hk => by cases hk) (by kernel_rfl) (laid_met_plainTells os))) ?_
  intro W base args ds gs before hval hW _ _ _ hL _ _
  exact contract_plainTells H enc W base args ds gs before hval hW
theorem said_plainTells : Rows.PlainTellsSaid :=
  OpenClaim.holds_of_cond 7 Tryd.f7 rfl rfl rfl rfl rfl rfl rfl ⟨rfl, rfl, rfl, rfl, rfl⟩ rfl rfl rfl rfl rfl (by kernel_rfl) Tryd.func7 (by kernel_rfl)
    (of_decide_eq_true (by kernel_rfl)) (by unfold Func.isWrapper; first | (rw [if_pos (by decide +kernel)]; kernel_rfl) | (rw [if_neg (by decide +kernel)]; exact ⟨rfl, rfl⟩))
    (fun os started H enc _ F => by rw [OpenClaim.pre_eq_preRow]; exact lifted_plainTells os started H enc F)
theorem plain_plainTells (f : FuncId) (fn : Func) (hf : Tryd.pinned.checked.prog.funcNamed Rows.plainTellsRow.func = some f) (hfn : Tryd.pinned.checked.prog.funcs[f]? = some fn) :
    true = Tryd.pinned.checked.prog.looks [] ∧ ∀ (j : Nat) t, fn.params[j]? = some t → Tryd.pinned.checked.prog.wantsStandIn t = false := by
  obtain rfl : f = 7 := Option.some.inj ((show Tryd.prog.funcNamed Rows.plainTellsRow.func = some 7 by kernel_rfl).symm.trans hf) |>.symm
  obtain rfl : fn = Tryd.f7 := (Option.some.inj (Tryd.func7.symm.trans hfn)).symm
  refine ⟨by kernel_rfl, fun j t ht => ?_⟩
  rw [Tryd.params7] at ht
  have hm := Array.mem_of_getElem? ht
  simp only [List.mem_toArray, List.mem_cons, List.not_mem_nil, or_false] at hm
  subst hm <;> first | exact (show Tryd.prog.wantsStandIn 51 = false by kernel_rfl)
/-- THE CARD. -/
theorem plainTells_card : Rows.PlainTellsCardSaid :=
  Claim7.holds_tied_plain_at .later [] _ _ _ _ said_plainTells (fun _ h => by cases h) (by kernel_rfl) (fun _ h => by cases h) plainTells_row_tie rfl ⟨rfl, rfl⟩ (by kernel_rfl) rfl plain_plainTells (by kernel_rfl)
#print axioms plainTells_card
end Go.Proofs.YtjnagiaooecklaaDoor
