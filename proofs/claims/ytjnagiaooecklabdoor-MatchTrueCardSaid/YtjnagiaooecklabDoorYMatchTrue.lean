/-
  The law MatchTrue, it returns true for every input, and each argument reads behind the call as it read before. No condition.
-/
import Derived.Test.YtjnagiaooecklabDoorG21
import Derived.Test.YtjnagiaooecklabDoorG23
import Derived.Test.YtjnagiaooecklabDoorG25
import Derived.Test.YtjnagiaooecklabDoorG26
import Derived.Test.YtjnagiaooecklabDoorG24
import Derived.Test.YtjnagiaooecklabDoorG22
import Derived.Test.YtjnagiaooecklabDoorG27
import Derived.Test.YtjnagiaooecklabDoorCards
import Derived.Test.YtjnagiaooecklabDoorTie
import Derived.Deep.DeepLaidRun
import Derived.ProofKit
import Derived.OpenShut
import Derived.SizedLaws
set_option linter.all false
set_option maxRecDepth 100000
namespace Go.Proofs.YtjnagiaooecklabDoor
open Go.RowKit Go.ChangeShapes Go.WideShapes Go.WideElems Go.Hx
theorem own_matchTrue : ownKnob Tryd.prog.godebug = none := by kernel_rfl
theorem contract_matchTrue (H : Type) (enc : TypeId × Value → H) (W : World) (base : Nat) (args : Array Value) (ds gs : List (DataW H)) (before : List MemPlace)
    (hval : ∀ (j : Nat) t v, Tryd.f3.params[j]? = some t → args[j]? = some v → Value.okWide Tryd.prog W .any base t v)
    (hW : DataW.Whole enc Tryd.prog Tryd.f3.params.toList Rows.matchTrueSpec.vars false W args.toList ds gs before)
    (hsz : (DataW.weightsEach Tryd.prog (Tryd.f3.params.toList ++ (OpenSpec.ofChange Rows.matchTrueSpec).bare.plain.varTypes Tryd.prog) (ds ++ gs)).all (· ≤ reachBytes) = true)
    (hL : laidMetH Tryd.prog Rows.matchTrueRow.laid W) (hsh : W.ShapedOpen Tryd.prog) :
    Calls Tryd.prog 3 args W fun e W' => ∃ v, e = .returned v ∧ Rows.matchTrueSpec.post enc Tryd.prog Tryd.f3 false true false false W args v W' := by
  have hW' := hW
  obtain ⟨p, q, hA0, hV, rfl, hfz, hnd⟩ := hW
  have hA : DataW.TrodAll enc Tryd.prog W 0 (fun _ => true) true Tryd.f3.params.toList args.toList ds p := hA0
  rw [Tryd.params3] at hA hval
  obtain ⟨v0, vs0, d0, ds0, p0, q0, e0, rfl, rfl, h0, r0⟩ := trodAll_cons hA
  obtain ⟨v1, vs1, d1, ds1, p1, q1, e1, rfl, rfl, h1, r1⟩ := trodAll_cons r0
  obtain ⟨v2, vs2, d2, ds2, p2, q2, e2, rfl, rfl, h2, r2⟩ := trodAll_cons r1
  obtain ⟨v3, vs3, d3, ds3, p3, q3, e3, rfl, rfl, h3, r3⟩ := trodAll_cons r2
  obtain ⟨rfl, rfl, rfl⟩ := trodAll_nil r3
  subst e3
  subst e2
  subst e1
  obtain rfl : args = #[v0, v1, v2, v3] := by cases args; simp_all
  obtain ⟨x0, g0⟩ := a_doc (hval 0 24 v0 rfl rfl) h0
  obtain ⟨x1, g1⟩ := a_paths (hval 1 25 v1 rfl rfl) h1
  obtain ⟨x2, g2⟩ := a_paths (hval 2 25 v2 rfl rfl) h2
  obtain ⟨x3, g3⟩ := a_int (hval 3 3 v3 rfl rfl) h3
  obtain ⟨rfl, rfl⟩ := trodVars_none hV
  have hlen : x2.length * 48 ≤ 140737488351232 := by
    obtain ⟨A, c, e, _⟩ := g2
    have h' := h2
    rw [e] at h'
    rcases trod_slice up_paths h' with h | ⟨el, rest, h5, h⟩
    · rw [zA0] at h; omega
    · rw [zA0] at h
      have h6 := sized_slice hsz (j := 2) (t := 25) (elems := el) (spare := rest) (by kernel_rfl) (by rw [h5]; rfl) up_paths
      rw [show Tryd.prog.bytesOf 57 = 48 by kernel_rfl] at h6
      have h7 : reachBytes = 140737488351232 := rfl
      omega
  have hC := (@c_law_MatchTrue globMax maxOk_globMax x0 x1 x2 x3 hlen).2 (memOf W) W [v0, v1, v2, v3] memOf_ok ⟨_, _, rfl, g0, ⟨_, _, rfl, g1, ⟨_, _, rfl, g2, ⟨_, _, rfl, g3, rfl⟩⟩⟩⟩ (by intro g h; cases h) (maxIn_of hsh) (by rintro b (h | h) <;> cases h)
  refine hC.mono fun e W' ⟨m', _, _, hp, _, _, u, hu, hr⟩ => ?_
  obtain rfl : u = .bool true := hr.1
  refine ⟨.bool true, hu, ?_⟩
  exact law_post (tb := 4) hW' rfl rfl (by kernel_rfl) (by kernel_rfl) (by kernel_rfl) (by rw [Tryd.params3]; intro t ht; simp only [List.mem_cons, List.not_mem_nil, or_false] at ht; rcases ht with rfl | rfl | rfl | rfl <;> exact ⟨by kernel_rfl, of_decide_eq_true (by kernel_rfl)⟩) hp (by intro b h; rcases h with h | h <;> cases h)
theorem laid_met_matchTrue (os : Os) : laidMet Tryd.prog Rows.matchTrueRow.laid ((laidW os).forCall (fun _ _ => 0) ⟨#[], #[.agg #[.slice none 0 0], .slice none 0 0, .slice none 0 0, .int .i64 0], []⟩).memory :=
  laidMet_of_run3 8 (by kernel_rfl) (by kernel_rfl) (by kernel_rfl)
theorem reads_matchTrue (os : Os) {H : Type} (enc : TypeId × Value → H) : ∃ places, DataW.whole enc Tryd.prog ((laidW os).forCall (fun _ _ => 0) ⟨#[], #[.agg #[.slice none 0 0], .slice none 0 0, .slice none 0 0, .int .i64 0], []⟩).memory Tryd.f3.params.toList Rows.matchTrueSpec.vars false (#[.agg #[.slice none 0 0], .slice none 0 0, .slice none 0 0, .int .i64 0] : Array Value).toList 8 = some ([.agg [.nil], .nil, .nil, .lit (.int .i64 0)], [], places) :=
  ⟨[], by kernel_rfl⟩
theorem lifted_matchTrue (os : Os) (started : os.Started) (H : Type) (enc : TypeId × Value → H) (F : Stop.Interp) :
    ReturnsInHanded {} Tryd.checked os 3 .any ((OpenSpec.ofChange Rows.matchTrueSpec).preRow enc Tryd.prog Tryd.f3 Rows.matchTrueRow.domain false Rows.matchTrueRow.laid) (((OpenSpec.ofChange Rows.matchTrueSpec).at F).post enc Tryd.prog Tryd.f3 false true false false) := by
  obtain ⟨places, hx⟩ := reads_matchTrue os enc
  refine returnsInHanded_of_row (C := Tryd.checked) (s := OpenSpec.ofChange Rows.matchTrueSpec) own_matchTrue started (by kernel_rfl) Tryd.func3
    (witness_row_at (enc := enc) (C := Tryd.checked) false (laidW os) #[.agg #[.slice none 0 0], .slice none 0 0, .slice none 0 0, .int .i64 0] rfl (by kernel_rfl) (by kernel_rfl) (by kernel_rfl)
      (OpenSpec.preRow_of_cond 8 hx (by kernel_rfl) (fun k hk => by cases hk) (by kernel_rfl) (laid_met_matchTrue os))) ?_
  intro W base args ds gs before hval hW _ hcond hsz hL hsh _
  exact contract_matchTrue H enc W base args ds gs before hval hW hsz hL hsh
theorem in_matchTrue : (Rows.matchTrueRow.inPlace == Tryd.pinned.checked.prog.inPlace 3) = true := by kernel_rfl
theorem unf_matchTrue : (Rows.matchTrueRow.unfollowed == Tryd.pinned.checked.prog.unfollowed 3) = true := by kernel_rfl
theorem rec_matchTrue : (Rows.matchTrueRow.recurses == Tryd.pinned.checked.prog.recurses 3) = true := by kernel_rfl
theorem nam_matchTrue : (Rows.matchTrueRow.named == Tryd.pinned.checked.prog.varsNamed 3) = true := by kernel_rfl
theorem lif_matchTrue : (Rows.matchTrueRow.lifted == Tryd.pinned.checked.prog.liftsFinal) = true := by kernel_rfl
theorem mak_matchTrue : (Tryd.pinned.checked.prog.make == some Rows.matchTrueRow.make) = true := by kernel_rfl
theorem key_matchTrue : (Rows.matchTrueRow.plainKeys == Tryd.pinned.checked.prog.plainKeys) = true := j_keys
theorem closed_matchTrue : joinedFacts Tryd.pinned.checked.prog 3 Tryd.f3 (OpenSpec.ofChange Rows.matchTrueSpec).bare Rows.matchTrueRow = true := by
  simp only [joinedFacts, Bool.and_eq_true]
  repeat' with_reducible apply And.intro
  all_goals with_reducible first | exact j_laid | exact j_maps | exact j_heard | exact j_enter | exact j_stops | exact j_knobs | exact in_matchTrue | exact unf_matchTrue | exact rec_matchTrue | exact nam_matchTrue | exact lif_matchTrue | exact mak_matchTrue | exact key_matchTrue | skip
  all_goals (as_aux_lemma => kernel_rfl)
theorem said_matchTrue : Rows.MatchTrueSaid :=
  OpenClaim.holds_of_cond 3 Tryd.f3 rfl rfl rfl rfl rfl rfl rfl ⟨rfl, rfl, rfl, rfl, rfl⟩ rfl rfl rfl rfl rfl (by kernel_rfl) Tryd.func3 closed_matchTrue
    (of_decide_eq_true (by kernel_rfl)) (by unfold Func.isWrapper; first | (rw [if_pos (by decide +kernel)]; kernel_rfl) | (rw [if_neg (by decide +kernel)]; exact ⟨rfl, rfl⟩))
    (fun os started H enc _ F => by rw [OpenClaim.pre_eq_preRow]; exact lifted_matchTrue os started H enc F)
theorem plain_matchTrue (f : FuncId) (fn : Func) (hf : Tryd.pinned.checked.prog.funcNamed Rows.matchTrueRow.func = some f) (hfn : Tryd.pinned.checked.prog.funcs[f]? = some fn) :
    false = Tryd.pinned.checked.prog.looks [] ∧ ∀ (j : Nat) t, fn.params[j]? = some t → Tryd.pinned.checked.prog.wantsStandIn t = false := by
  obtain rfl : f = 3 := Option.some.inj ((show Tryd.prog.funcNamed Rows.matchTrueRow.func = some 3 by kernel_rfl).symm.trans hf) |>.symm
  obtain rfl : fn = Tryd.f3 := (Option.some.inj (Tryd.func3.symm.trans hfn)).symm
  refine ⟨by kernel_rfl, fun j t ht => ?_⟩
  rw [Tryd.params3] at ht
  have hm := Array.mem_of_getElem? ht
  simp only [List.mem_toArray, List.mem_cons, List.not_mem_nil, or_false] at hm
  rcases hm with rfl | rfl | rfl | rfl <;> first | exact (show Tryd.prog.wantsStandIn 24 = false by kernel_rfl) | exact (show Tryd.prog.wantsStandIn 3 = false by kernel_rfl) | exact (show Tryd.prog.wantsStandIn 25 = false by kernel_rfl)
theorem matchTrue_card : Rows.MatchTrueCardSaid :=
  Claim7.holds_tied_plain_at .later [] _ _ _ _ said_matchTrue (fun _ h => by cases h) (by kernel_rfl) (fun _ h => by cases h) matchTrue_row_tie rfl ⟨rfl, rfl⟩ (by kernel_rfl) rfl plain_matchTrue (by kernel_rfl)
#print axioms matchTrue_card
end Go.Proofs.YtjnagiaooecklabDoor
