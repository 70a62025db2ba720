/-
  The law MarkBack, where what it reads is of bulk at most 1048576: it returns true, and each argument reads behind the call as it read before. No other condition.
-/
import Derived.Test.YtjnagiaooecklaaDoorG23
import Derived.Test.YtjnagiaooecklaaDoorG26
import Derived.Test.YtjnagiaooecklaaDoorG27
import Derived.Test.YtjnagiaooecklaaDoorCards
import Derived.Test.YtjnagiaooecklaaDoorTie
import Derived.Deep.DeepLaidRun
import Derived.ProofKit
import Derived.OpenShut
set_option linter.all false
set_option maxRecDepth 100000
namespace Go.Proofs.YtjnagiaooecklaaDoor
open Go.RowKit Go.ChangeShapes Go.WideShapes Go.WideElems Go.Hx

theorem own_markBack : ownKnob Tryd.prog.godebug = none := by kernel_rfl
theorem contract_markBack (H : Type) (enc : TypeId × Value → H) (W : World) (base : Nat) (args : Array Value) (ds gs : List (DataW H)) (before : List MemPlace)
    (hval : ∀ (j : Nat) t v, Tryd.f9.params[j]? = some t → args[j]? = some v → Value.okWide Tryd.prog W .any base t v)
    (hW : DataW.Whole enc Tryd.prog Tryd.f9.params.toList Rows.markBackSpec.vars false W args.toList ds gs before)
    (hk : Rows.uptoSmall H (ds ++ gs) = true) (hsh : W.ShapedOpen Tryd.prog) :
    Calls Tryd.prog 9 args W fun e W' => ∃ v, e = .returned v ∧ Rows.markBackSpec.post enc Tryd.prog Tryd.f9 false true false false W args v W' := by
  have hW' := hW
  obtain ⟨p, q, hA0, hV, rfl, hfz, hnd⟩ := hW
  have hA : DataW.TrodAll enc Tryd.prog W 0 (fun _ => true) true Tryd.f9.params.toList args.toList ds p := hA0
  rw [Tryd.params9] at hA hval
  obtain ⟨v0, vs0, d0, ds0, p0, q0, e0, rfl, rfl, h0, r0⟩ := trodAll_cons hA
  obtain ⟨v1, vs1, d1, ds1, p1, q1, e1, rfl, rfl, h1, r1⟩ := trodAll_cons r0
  obtain ⟨rfl, rfl, rfl⟩ := trodAll_nil r1
  subst e1
  obtain rfl : args = #[v0, v1] := by cases args; simp_all
  obtain ⟨x0, g0⟩ := a_doc (hval 0 24 v0 rfl rfl) h0
  obtain ⟨x1, g1, hd1⟩ := a_text (hval 1 9 v1 rfl rfl) h1
  obtain ⟨rfl, rfl⟩ := trodVars_none hV
  have hlen : x1.length ≤ 1048576 := by
    subst hd1
    have hk' : Rows.uptoBulkAll [d0, DataW.lit (H := H) (.string x1)] ≤ 1048576 := of_decide_eq_true hk
    simp only [Rows.uptoBulkAll, Rows.uptoBulk] at hk'
    omega
  have hC := (@c_law_MarkBack globMax maxOk_globMax x0 x1 hlen).2 (memOf W) W [v0, v1] memOf_ok ⟨_, _, rfl, g0, ⟨_, _, rfl, g1, rfl⟩⟩ (by intro g h; cases h) (maxIn_of hsh) (by rintro b (h | h) <;> cases h)
  refine hC.mono fun e W' ⟨m', _, _, hp, _, _, u, hu, hr⟩ => ?_
  obtain rfl : u = .bool true := hr.1
  refine ⟨.bool true, hu, ?_⟩
  exact law_post (tb := 4) hW' rfl rfl (by kernel_rfl) (by kernel_rfl) (by kernel_rfl) (by rw [Tryd.params9]; intro t ht; simp only [List.mem_cons, List.not_mem_nil, or_false] at ht; rcases ht with rfl | rfl <;> exact ⟨by kernel_rfl, of_decide_eq_true (by kernel_rfl)⟩) hp (by intro b h; rcases h with h | h <;> cases h)

noncomputable def laidWorld_markBack (os : Os) : World := laidW os
theorem laid_met_markBack (os : Os) : laidMet Tryd.prog Rows.markBackUptoRow.laid ((laidW os).forCall (fun _ _ => 0) ⟨#[], #[.agg #[.slice none 0 0], .string ⟨#[]⟩], []⟩).memory :=
  laidMet_of_run3 8 (by kernel_rfl) (by kernel_rfl) (by kernel_rfl)
theorem reads_markBack (os : Os) {H : Type} (enc : TypeId × Value → H) : ∃ places, DataW.whole enc Tryd.prog ((laidW os).forCall (fun _ _ => 0) ⟨#[], #[.agg #[.slice none 0 0], .string ⟨#[]⟩], []⟩).memory Tryd.f9.params.toList Rows.markBackSpec.vars false (#[.agg #[.slice none 0 0], .string ⟨#[]⟩] : Array Value).toList 8 = some ([.agg [.nil], .lit (.string [])], [], places) :=
  ⟨[], by kernel_rfl⟩
theorem lifted_markBack (os : Os) (started : os.Started) (H : Type) (enc : TypeId × Value → H) (F : Stop.Interp) :
    ReturnsInHanded {} Tryd.checked os 9 .any ((Rows.OpenSpec.upto Rows.markBackSpec).preRow enc Tryd.prog Tryd.f9 Rows.markBackUptoRow.domain false Rows.markBackUptoRow.laid) (((Rows.OpenSpec.upto Rows.markBackSpec).at F).post enc Tryd.prog Tryd.f9 false true false false) := by
  obtain ⟨places, hx⟩ := reads_markBack os enc
  refine returnsInHanded_of_row (C := Tryd.checked) (s := Rows.OpenSpec.upto Rows.markBackSpec) own_markBack started (by kernel_rfl) Tryd.func9
    (witness_row_at (enc := enc) (C := Tryd.checked) false (laidW os) #[.agg #[.slice none 0 0], .string ⟨#[]⟩] rfl (by kernel_rfl) (by kernel_rfl) (by kernel_rfl)
      (OpenSpec.preRow_of_cond 8 hx (by kernel_rfl) (fun k hk => by cases hk; kernel_rfl) (by kernel_rfl) (laid_met_markBack os))) ?_
  intro W base args ds gs before hval hW _ hcond _ _ hsh _
  exact contract_markBack H enc W base args ds gs before hval hW (hcond _ rfl) hsh
theorem said_markBack : Rows.MarkBackUptoSaid :=
  OpenClaim.holds_of_cond 9 Tryd.f9 rfl rfl rfl rfl rfl rfl rfl ⟨rfl, rfl, rfl, rfl, rfl⟩ rfl rfl rfl rfl rfl (by kernel_rfl) Tryd.func9 (by kernel_rfl)
    (of_decide_eq_true (by kernel_rfl)) (by unfold Func.isWrapper; first | (rw [if_pos (by decide +kernel)]; kernel_rfl) | (rw [if_neg (by decide +kernel)]; exact ⟨rfl, rfl⟩))
    (fun os started H enc _ F => by rw [OpenClaim.pre_eq_preRow]; exact lifted_markBack os started H enc F)
theorem plain_markBack (f : FuncId) (fn : Func) (hf : Tryd.pinned.checked.prog.funcNamed Rows.markBackUptoRow.func = some f) (hfn : Tryd.pinned.checked.prog.funcs[f]? = some fn) :
    true = Tryd.pinned.checked.prog.looks [] ∧ ∀ (j : Nat) t, fn.params[j]? = some t → Tryd.pinned.checked.prog.wantsStandIn t = false := by
  obtain rfl : f = 9 := Option.some.inj ((show Tryd.prog.funcNamed Rows.markBackUptoRow.func = some 9 by kernel_rfl).symm.trans hf) |>.symm
  obtain rfl : fn = Tryd.f9 := (Option.some.inj (Tryd.func9.symm.trans hfn)).symm
  refine ⟨by kernel_rfl, fun j t ht => ?_⟩
  rw [Tryd.params9] at ht
  have hm := Array.mem_of_getElem? ht
  simp only [List.mem_toArray, List.mem_cons, List.not_mem_nil, or_false] at hm
  rcases hm with rfl | rfl <;> first | exact (show Tryd.prog.wantsStandIn 24 = false by kernel_rfl) | exact (show Tryd.prog.wantsStandIn 9 = false by kernel_rfl)
/-- THE CARD. -/
theorem markBackUpto_card : Rows.MarkBackUptoCardSaid :=
  Claim7.holds_tied_plain_at .later [] _ _ _ _ said_markBack (fun _ h => by cases h) (by kernel_rfl) (fun _ h => by cases h) markBackUpto_row_tie rfl ⟨rfl, rfl⟩ (by kernel_rfl) rfl plain_markBack (by kernel_rfl)
#print axioms markBackUpto_card
end Go.Proofs.YtjnagiaooecklaaDoor
