/-
  Walks of functions of the program over an abstract layer, and the laws that they use: each contract says what the function computes, for every input that its conditions let by. No other condition.
-/
import Derived.Test.YtjnagiaooecklaaDoorG12
import Derived.Test.YtjnagiaooecklaaDoorG13
import Derived.Test.YtjnagiaooecklaaDoorG9
set_option linter.all false
section
-- DOM getO
set_option maxRecDepth 100000
set_option linter.unusedSimpArgs false
namespace Go.Hx
open Go.Proofs Go.RowKit
variable [Glob]

attribute [local go_sem] ndsV_len clsV_len attV_len intsR_len ndV cellsEq getO
theorem post_resG {m : Mem} {w w' : World} {avs : List AV} {us : List Value} {e : Ending} {r : Res} (hm : MemOk m w) (h : Below w.heap.size w w') (hio : ioB avs us = none) (hr : ResRep m w w' (ownB avs us) r e) : Post m w avs us { res := r } e w' :=
  ⟨m, m.le_refl, memOk_below hm h, pres_of_below h, fun _ _ _ h => .inl h, (fun b hb => by rw [hio] at hb; cases hb), hr⟩
theorem prefix_sign (s p : Bys) : Lib.hasPrefix s p = signOk s p := by
  unfold Lib.hasPrefix signOk
  rw [Bool.eq_iff_iff]
  simp only [List.isPrefixOf_iff_prefix, Bool.and_eq_true, decide_eq_true_eq, beq_iff_eq]
  constructor
  · intro h
    exact ⟨h.length_le, (List.prefix_iff_eq_take.1 h).symm⟩
  · rintro ⟨_, h⟩
    exact List.prefix_iff_eq_take.2 h.symm
theorem c_strings_CutPrefix (s p : Bys) : Contract Tryd.prog fn_strings_CutPrefix [.val (sv s), .val (sv p)] { res := .tup [sv (signR s p), bv (signOk s p)] } := by
  refine ⟨by kernel_rfl, fun m w us hm hargs _ hG _ => ?_⟩
  obtain ⟨u1, us1, rfl, h1, u2, us2, rfl, h2, rfl⟩ := hargs
  obtain ⟨rfl, f1⟩ := h1
  obtain ⟨rfl, f2⟩ := h2
  have hs := mkS_flat f1
  have hT := Any.strings_CutPrefix Tryd.lays103 ⟨s.toArray⟩ ⟨p.toArray⟩ w
  change Calls Tryd.prog fn_strings_CutPrefix _ _ _ at hT
  refine hT.mono ?_
  rintro e w' ⟨rfl, rfl⟩
  have e1 : Lib.trimPrefix s p = signR s p := by
    unfold Lib.trimPrefix signR
    rw [prefix_sign]
  refine post_resG hm (Below.refl _ _) rfl ⟨_, rfl, ?_⟩
  refine ⟨_, _, rfl, ⟨by rw [← e1], ?_⟩, _, _, rfl, ⟨by rw [← prefix_sign], rfl⟩, rfl⟩
  refine flat_mkS' (Nat.le_trans ?_ hs)
  unfold signR
  split <;> simp
theorem c_strings_TrimLeft (s cs : Bys) (hc : cs.length < 1000) (ha : cs.all (fun b => decide (b.toNat < 128)) = true) : Contract Tryd.prog fn_strings_TrimLeft [.val (sv s), .val (sv cs)] { res := .val (sv (s.dropWhile (cs.contains ·))) } := by
  refine ⟨by kernel_rfl, fun m w us hm hargs _ hG _ => ?_⟩
  obtain ⟨u1, us1, rfl, h1, u2, us2, rfl, h2, rfl⟩ := hargs
  obtain ⟨rfl, f1⟩ := h1
  obtain ⟨rfl, f2⟩ := h2
  have hs := mkS_flat f1
  have hT := Any.strings_TrimLeft_laid Tryd.lays161 (by kernel_rfl) ⟨s.toArray⟩ ⟨cs.toArray⟩ w (by simp [ByteArray.size]; omega) (ascii_of_all (by simpa using ha))
  change Calls Tryd.prog fn_strings_TrimLeft _ _ _ at hT
  refine hT.mono fun e w' ⟨he, hb⟩ => post_val hm hb he ⟨by simp [Lib.trimLeftS], ?_⟩ rfl
  exact flat_mkS' (Nat.le_trans (List.dropWhile_sublist _).length_le hs)

/-! ### The strict reader: names, signs -/

theorem tw_len (s : Bys) (p : UInt8 → Bool) : s.length = (s.takeWhile p).length + (s.dropWhile p).length := by
  rw [← List.length_append, List.takeWhile_append_dropWhile]
theorem tw_take : ∀ (s : Bys) (p : UInt8 → Bool), s.take (s.takeWhile p).length = s.takeWhile p ∧ s.drop (s.takeWhile p).length = s.dropWhile p
  | [], p => by simp
  | c :: s, p => by
    obtain ⟨h1, h2⟩ := tw_take s p
    by_cases h : p c = true
    · simp [List.takeWhile_cons, List.dropWhile_cons, h, h1, h2]
    · simp [List.takeWhile_cons, List.dropWhile_cons, h]
theorem dw_set (s : Bys) : s.dropWhile (([97, 98, 99, 100, 101, 102, 103, 104, 105, 106, 107, 108, 109, 110, 111, 112, 113, 114, 115, 116, 117, 118, 119, 120, 121, 122, 48, 49, 50, 51, 52, 53, 54, 55, 56, 57, 45] : Bys).contains ·) = s.dropWhile nameCh := by
  congr 1
  exact funext set_ch
/-- What is thrown. -/
abbrev bkV : Value := .iface ty_mark_broken (.agg #[])
/-- The name that stands there. -/
abbrev nmOf (s : Bys) : Bys := s.takeWhile nameCh
abbrev nmR (s : Bys) : Bys := s.dropWhile nameCh
theorem c_pen_name (s : Bys) (h : isName (nmOf s) = true) : Contract Tryd.prog fn_mark_pen_name [.io [bS s]] { res := .val (sv (nmOf s)), io := [bS (nmR s)] } := by
  have hm0 : maxLen = 9223372036854775807 := rfl
  refine mk_mark_pen_name (base := 38) ⟨Nat.le_of_ble_eq_true rfl, Nat.le_of_ble_eq_true rfl, Nat.le_of_ble_eq_true rfl, ⟨rfl, rfl⟩⟩ (fun hfit => ?_)
  unfold F0 mark_pen_name_E
  simp (config := { maxSteps := 2000000 }) only [markU, List.set_cons_succ, List.set_cons_zero, List.map_cons, List.map_nil, argCt, setCells, ioOf, List.length_cons, List.length_nil, Nat.reduceAdd, Nat.reduceSub, List.replicate, List.cons_append, List.nil_append]
  try simp (config := { maxSteps := 2000000 }) only [go_sem, reduceCtorEq, Nat.reduceAdd, Nat.reduceEqDiff, reduceIte, Nat.reduceLeDiff, Nat.reduceLT, Nat.reduceSub]
  all_goals (repeat (with_reducible refine sAnd ?_))
  have hm := mkS_flat hfit.1.1
  have hl := tw_len s nameCh
  have hx1 : ((s.length : Int) - ((s.dropWhile nameCh).length : Int)).toNat = (s.takeWhile nameCh).length := by omega
  obtain ⟨t1, t2⟩ := tw_take s nameCh
  refine call_val (by repeat' constructor) (c_strings_TrimLeft s _ (by decide) (by decide)) ?_
  try simp (config := { maxSteps := 2000000 }) only [go_sem, reduceCtorEq, Nat.reduceAdd, Nat.reduceEqDiff, reduceIte, Nat.reduceLeDiff, Nat.reduceLT, Nat.reduceSub, dw_set, hx1, List.take_length, t1, t2, Int.toNat_zero, List.drop_zero]
  all_goals (repeat (with_reducible refine sAnd ?_))
  refine call_val (by repeat' constructor) (c_doc_Name (nmOf s)) ?_
  try simp (config := { maxSteps := 2000000 }) only [go_sem, reduceCtorEq, Nat.reduceAdd, Nat.reduceEqDiff, reduceIte, Nat.reduceLeDiff, Nat.reduceLT, Nat.reduceSub]
  all_goals (repeat (with_reducible refine sAnd ?_))
  refine cond_of (by rfl) trivial (fun h2 => ?_) (fun h2 => ?_)
  · rw [h] at h2; simp at h2
  · try simp (config := { maxSteps := 2000000 }) only [go_sem, reduceCtorEq, Nat.reduceAdd, Nat.reduceEqDiff, reduceIte, Nat.reduceLeDiff, Nat.reduceLT, Nat.reduceSub]
    all_goals (repeat (with_reducible refine sAnd ?_))
    exact fin_valio rfl trivial (.inl rfl) rfl rfl
theorem c_pen_name_pan (s : Bys) (h : isName (nmOf s) = false) : Contract Tryd.prog fn_mark_pen_name [.io [bS s]] { res := .pan bkV } := by
  have hm0 : maxLen = 9223372036854775807 := rfl
  refine mk_mark_pen_name (base := 38) ⟨Nat.le_of_ble_eq_true rfl, Nat.le_of_ble_eq_true rfl, Nat.le_of_ble_eq_true rfl, ⟨rfl, rfl⟩⟩ (fun hfit => ?_)
  unfold F0 mark_pen_name_E
  simp (config := { maxSteps := 2000000 }) only [markU, List.set_cons_succ, List.set_cons_zero, List.map_cons, List.map_nil, argCt, setCells, ioOf, List.length_cons, List.length_nil, Nat.reduceAdd, Nat.reduceSub, List.replicate, List.cons_append, List.nil_append]
  try simp (config := { maxSteps := 2000000 }) only [go_sem, reduceCtorEq, Nat.reduceAdd, Nat.reduceEqDiff, reduceIte, Nat.reduceLeDiff, Nat.reduceLT, Nat.reduceSub]
  all_goals (repeat (with_reducible refine sAnd ?_))
  have hm := mkS_flat hfit.1.1
  have hl := tw_len s nameCh
  have hx1 : ((s.length : Int) - ((s.dropWhile nameCh).length : Int)).toNat = (s.takeWhile nameCh).length := by omega
  obtain ⟨t1, t2⟩ := tw_take s nameCh
  refine call_val (by repeat' constructor) (c_strings_TrimLeft s _ (by decide) (by decide)) ?_
  try simp (config := { maxSteps := 2000000 }) only [go_sem, reduceCtorEq, Nat.reduceAdd, Nat.reduceEqDiff, reduceIte, Nat.reduceLeDiff, Nat.reduceLT, Nat.reduceSub, dw_set, hx1, List.take_length, t1, t2, Int.toNat_zero, List.drop_zero]
  all_goals (repeat (with_reducible refine sAnd ?_))
  refine call_val (by repeat' constructor) (c_doc_Name (nmOf s)) ?_
  try simp (config := { maxSteps := 2000000 }) only [go_sem, reduceCtorEq, Nat.reduceAdd, Nat.reduceEqDiff, reduceIte, Nat.reduceLeDiff, Nat.reduceLT, Nat.reduceSub]
  all_goals (repeat (with_reducible refine sAnd ?_))
  refine cond_of (by rfl) trivial (fun h2 => ?_) (fun h2 => ?_)
  · try simp (config := { maxSteps := 2000000 }) only [go_sem, reduceCtorEq, Nat.reduceAdd, Nat.reduceEqDiff, reduceIte, Nat.reduceLeDiff, Nat.reduceLT, Nat.reduceSub]
    all_goals (repeat (with_reducible refine sAnd ?_))
    exact ⟨_, rfl, rfl⟩
  · rw [h] at h2; simp at h2
theorem c_pen_has (s t : Bys) : Contract Tryd.prog fn_mark_pen_has [.io [bS s], .val (sv t)] { res := .val (bv (signOk s t)), io := [bS (signR s t)] } := by
  refine mk_mark_pen_has (base := 21) ⟨Nat.le_of_ble_eq_true rfl, Nat.le_of_ble_eq_true rfl, Nat.le_of_ble_eq_true rfl, ⟨rfl, rfl⟩⟩ (fun hfit => ?_)
  unfold F0 mark_pen_has_E
  simp (config := { maxSteps := 2000000 }) only [markU, List.set_cons_succ, List.set_cons_zero, List.map_cons, List.map_nil, argCt, setCells, ioOf, List.length_cons, List.length_nil, Nat.reduceAdd, Nat.reduceSub, List.replicate, List.cons_append, List.nil_append]
  try simp (config := { maxSteps := 2000000 }) only [go_sem, reduceCtorEq, Nat.reduceAdd, Nat.reduceEqDiff, reduceIte, Nat.reduceLeDiff, Nat.reduceLT, Nat.reduceSub]
  all_goals (repeat (with_reducible refine sAnd ?_))
  refine call_tup (by repeat' constructor) (c_strings_CutPrefix s t) ?_
  try simp (config := { maxSteps := 2000000 }) only [go_sem, reduceCtorEq, Nat.reduceAdd, Nat.reduceEqDiff, reduceIte, Nat.reduceLeDiff, Nat.reduceLT, Nat.reduceSub]
  all_goals (repeat (with_reducible refine sAnd ?_))
  exact fin_valio rfl trivial (.inl rfl) rfl rfl
theorem c_pen_must (s t : Bys) (h : signOk s t = true) : Contract Tryd.prog fn_mark_pen_must [.io [bS s], .val (sv t)] { res := .tup [], io := [bS (signR s t)] } := by
  refine mk_mark_pen_must (base := 10) ⟨Nat.le_of_ble_eq_true rfl, Nat.le_of_ble_eq_true rfl, Nat.le_of_ble_eq_true rfl, ⟨rfl, rfl⟩⟩ (fun hfit => ?_)
  unfold F0 mark_pen_must_E
  simp (config := { maxSteps := 2000000 }) only [markU, List.set_cons_succ, List.set_cons_zero, List.map_cons, List.map_nil, argCt, setCells, ioOf, List.length_cons, List.length_nil, Nat.reduceAdd, Nat.reduceSub, List.replicate, List.cons_append, List.nil_append]
  try simp (config := { maxSteps := 2000000 }) only [go_sem, reduceCtorEq, Nat.reduceAdd, Nat.reduceEqDiff, reduceIte, Nat.reduceLeDiff, Nat.reduceLT, Nat.reduceSub]
  all_goals (repeat (with_reducible refine sAnd ?_))
  refine call_val (by repeat' constructor) (c_pen_has s t) ?_
  try simp (config := { maxSteps := 2000000 }) only [go_sem, reduceCtorEq, Nat.reduceAdd, Nat.reduceEqDiff, reduceIte, Nat.reduceLeDiff, Nat.reduceLT, Nat.reduceSub]
  all_goals (repeat (with_reducible refine sAnd ?_))
  refine cond_of (by rfl) trivial (fun h2 => ?_) (fun h2 => ?_)
  · rw [h] at h2; simp at h2
  · try simp (config := { maxSteps := 2000000 }) only [go_sem, reduceCtorEq, Nat.reduceAdd, Nat.reduceEqDiff, reduceIte, Nat.reduceLeDiff, Nat.reduceLT, Nat.reduceSub]
    all_goals (repeat (with_reducible refine sAnd ?_))
    exact ⟨by first | rfl | trivial | (simp only [finRes]; trivial), fun cs hcs => by injection hcs with hcs; subst hcs; rfl⟩
theorem c_pen_must_pan (s t : Bys) (h : signOk s t = false) : Contract Tryd.prog fn_mark_pen_must [.io [bS s], .val (sv t)] { res := .pan bkV } := by
  refine mk_mark_pen_must (base := 10) ⟨Nat.le_of_ble_eq_true rfl, Nat.le_of_ble_eq_true rfl, Nat.le_of_ble_eq_true rfl, ⟨rfl, rfl⟩⟩ (fun hfit => ?_)
  unfold F0 mark_pen_must_E
  simp (config := { maxSteps := 2000000 }) only [markU, List.set_cons_succ, List.set_cons_zero, List.map_cons, List.map_nil, argCt, setCells, ioOf, List.length_cons, List.length_nil, Nat.reduceAdd, Nat.reduceSub, List.replicate, List.cons_append, List.nil_append]
  try simp (config := { maxSteps := 2000000 }) only [go_sem, reduceCtorEq, Nat.reduceAdd, Nat.reduceEqDiff, reduceIte, Nat.reduceLeDiff, Nat.reduceLT, Nat.reduceSub]
  all_goals (repeat (with_reducible refine sAnd ?_))
  refine call_val (by repeat' constructor) (c_pen_has s t) ?_
  try simp (config := { maxSteps := 2000000 }) only [go_sem, reduceCtorEq, Nat.reduceAdd, Nat.reduceEqDiff, reduceIte, Nat.reduceLeDiff, Nat.reduceLT, Nat.reduceSub]
  all_goals (repeat (with_reducible refine sAnd ?_))
  refine cond_of (by rfl) trivial (fun h2 => ?_) (fun h2 => ?_)
  · try simp (config := { maxSteps := 2000000 }) only [go_sem, reduceCtorEq, Nat.reduceAdd, Nat.reduceEqDiff, reduceIte, Nat.reduceLeDiff, Nat.reduceLT, Nat.reduceSub]
    all_goals (repeat (with_reducible refine sAnd ?_))
    exact ⟨_, rfl, rfl⟩
  · rw [h] at h2; simp at h2
end Go.Hx
end

section
-- DOM getO
set_option maxRecDepth 100000
set_option linter.unusedSimpArgs false
namespace Go.Hx
open Go.Proofs Go.RowKit
variable [Glob]

attribute [local go_sem] ndsV_len clsV_len attV_len intsR_len ndV cellsEq getO
/-- A variable of the library's holds an int. -/
def MaxOk : Prop := ∀ w, Glob.ok w → ∃ m : Int, w.cell? ⟨Tryd.lays145_ren.g 1, 0, none⟩ = some (.int .i64 m)
theorem cut_le (s t : Bys) : (Lib.cut s t).1.length ≤ s.length ∧ (Lib.cut s t).2.1.length ≤ s.length := by
  unfold Lib.cut
  split
  · simp; omega
  · simp
theorem drewN_below (w : World) : ∀ n, Below w.heap.size w (w.drewN n)
  | n => ⟨rfl, rfl, rfl, Nat.le_refl _, fun _ _ => rfl⟩
theorem c_strings_CutL (hM : MaxOk) (s t : Bys) (hs : s.length < 4294967281) : Contract Tryd.prog fn_strings_Cut [.val (sv s), .val (sv t)] { res := .tup [sv (Lib.cut s t).1, sv (Lib.cut s t).2.1, bv (Lib.cut s t).2.2] } := by
  refine ⟨by kernel_rfl, fun m w us hm hargs _ hG _ => ?_⟩
  obtain ⟨u1, us1, rfl, h1, u2, us2, rfl, h2, rfl⟩ := hargs
  obtain ⟨rfl, f1⟩ := h1
  obtain ⟨rfl, f2⟩ := h2
  obtain ⟨q, hq⟩ := hM w hG
  have hT := Any.strings_Cut Tryd.lays145 ⟨s.toArray⟩ ⟨t.toArray⟩ q w (by simpa [ByteArray.size] using hs) hq
  change Calls Tryd.prog fn_strings_Cut _ _ _ at hT
  refine hT.mono ?_
  rintro e w' ⟨rfl, n, rfl⟩
  have hl := cut_le s t
  have h1 : s.length ≤ maxLen := by simp only [maxLen]; omega
  exact post_resG hm (drewN_below w n) rfl ⟨_, rfl, _, _, rfl, ⟨rfl, flat_mkS' (Nat.le_trans hl.1 h1)⟩, _, _, rfl, ⟨rfl, flat_mkS' (Nat.le_trans hl.2 h1)⟩, _, _, rfl, ⟨rfl, rfl⟩, rfl⟩

/-- An attribute, behind its bracket. -/
def attrCut (s : Bys) : Bys × Bys × Bool := Lib.cut (signR (nmR s) [61, 34]) [34, 93]
def attrRd (s : Bys) : Option ((Bys × Bys) × Bys) :=
  if isName (nmOf s) && signOk (nmR s) [61, 34] && (attrCut s).2.2 && isValue (attrCut s).1 then some ((nmOf s, (attrCut s).1), (attrCut s).2.1) else none
def attrRes (s : Bys) : RV := match attrRd s with
  | some (a, r) => { res := .val (.agg [bS a.1, bS a.2]), io := [bS r] }
  | none => { res := .pan bkV }
theorem attrRes_pan {s : Bys} (h : (isName (nmOf s) && signOk (nmR s) [61, 34] && (attrCut s).2.2 && isValue (attrCut s).1) = false) : attrRes s = { res := .pan bkV } := by
  unfold attrRes attrRd
  rw [h]; rfl
theorem attrRes_ok {s : Bys} (h : (isName (nmOf s) && signOk (nmR s) [61, 34] && (attrCut s).2.2 && isValue (attrCut s).1) = true) : attrRes s = { res := .val (.agg [bS (nmOf s), bS (attrCut s).1]), io := [bS (attrCut s).2.1] } := by
  unfold attrRes attrRd
  rw [h]; rfl
theorem signR_len (s t : Bys) : (signR s t).length ≤ s.length := by
  unfold signR
  split <;> simp
theorem nmR_len (s : Bys) : (nmR s).length ≤ s.length := (List.dropWhile_sublist _).length_le
theorem fin_cellBio {E : Env} {base t j bs off n : Nat} {av : List AV} {F : List Ct} {agg : Bool} {cs cells io : List PV} {x : PVal} (e : F.getD t .un = .ptr j off) (h : cellsPV F (bs + off) n = some cs) (hx : x = if agg then .agg cs else .one (cs.headD (.nl 0))) (hio : ioOf av = some cells) (hc : cellsPV F base cells.length = some io) : finQ E base av [.cellB t j bs off n agg] { res := .val x, io := io } .ret F :=
  ⟨by simp only [finRes]; exact rs_cellB e h (.inl hx), fun cs' h' => by rw [hio] at h'; injection h' with h'; subst h'; exact hc⟩
theorem c_pen_attr (hM : MaxOk) (s : Bys) (hs : s.length ≤ 1048576) : Contract Tryd.prog fn_mark_pen_attr [.io [bS s]] (attrRes s) := by
  have hr1 := nmR_len s
  have hr2 := signR_len (nmR s) [61, 34]
  cases hn : isName (nmOf s) with
  | false =>
    rw [attrRes_pan (by rw [hn]; rfl)]
    refine mk_mark_pen_attr (base := 37) ⟨Nat.le_of_ble_eq_true rfl, Nat.le_of_ble_eq_true rfl, Nat.le_of_ble_eq_true rfl, ⟨rfl, rfl⟩⟩ (fun hfit => ?_)
    unfold F0 mark_pen_attr_E
    simp (config := { maxSteps := 2000000 }) only [markU, List.set_cons_succ, List.set_cons_zero, List.map_cons, List.map_nil, argCt, setCells, ioOf, List.length_cons, List.length_nil, Nat.reduceAdd, Nat.reduceSub, List.replicate, List.cons_append, List.nil_append]
    try simp (config := { maxSteps := 2000000 }) only [go_sem, reduceCtorEq, Nat.reduceAdd, Nat.reduceEqDiff, reduceIte, Nat.reduceLeDiff, Nat.reduceLT, Nat.reduceSub]
    all_goals (repeat (with_reducible refine sAnd ?_))
    refine call_pan (by repeat' constructor) (c_pen_name_pan s hn) ?_
    try simp (config := { maxSteps := 2000000 }) only [go_sem, reduceCtorEq, Nat.reduceAdd, Nat.reduceEqDiff, reduceIte, Nat.reduceLeDiff, Nat.reduceLT, Nat.reduceSub]
    all_goals (repeat (with_reducible refine sAnd ?_))
    exact ⟨_, rfl, rfl⟩
  | true =>
    cases hg : signOk (nmR s) [61, 34] with
    | false =>
      rw [attrRes_pan (by rw [hn, hg]; rfl)]
      refine mk_mark_pen_attr (base := 37) ⟨Nat.le_of_ble_eq_true rfl, Nat.le_of_ble_eq_true rfl, Nat.le_of_ble_eq_true rfl, ⟨rfl, rfl⟩⟩ (fun hfit => ?_)
      unfold F0 mark_pen_attr_E
      simp (config := { maxSteps := 2000000 }) only [markU, List.set_cons_succ, List.set_cons_zero, List.map_cons, List.map_nil, argCt, setCells, ioOf, List.length_cons, List.length_nil, Nat.reduceAdd, Nat.reduceSub, List.replicate, List.cons_append, List.nil_append]
      try simp (config := { maxSteps := 2000000 }) only [go_sem, reduceCtorEq, Nat.reduceAdd, Nat.reduceEqDiff, reduceIte, Nat.reduceLeDiff, Nat.reduceLT, Nat.reduceSub]
      all_goals (repeat (with_reducible refine sAnd ?_))
      refine call_val (by repeat' constructor) (c_pen_name s hn) ?_
      try simp (config := { maxSteps := 2000000 }) only [go_sem, reduceCtorEq, Nat.reduceAdd, Nat.reduceEqDiff, reduceIte, Nat.reduceLeDiff, Nat.reduceLT, Nat.reduceSub]
      all_goals (repeat (with_reducible refine sAnd ?_))
      refine call_pan (by repeat' constructor) (c_pen_must_pan (nmR s) [61, 34] hg) ?_
      try simp (config := { maxSteps := 2000000 }) only [go_sem, reduceCtorEq, Nat.reduceAdd, Nat.reduceEqDiff, reduceIte, Nat.reduceLeDiff, Nat.reduceLT, Nat.reduceSub]
      all_goals (repeat (with_reducible refine sAnd ?_))
      exact ⟨_, rfl, rfl⟩
    | true =>
      cases hc : ((attrCut s).2.2 && isValue (attrCut s).1) with
      | false =>
        rw [attrRes_pan (by rw [hn, hg, Bool.true_and, Bool.true_and, hc])]
        refine mk_mark_pen_attr (base := 37) ⟨Nat.le_of_ble_eq_true rfl, Nat.le_of_ble_eq_true rfl, Nat.le_of_ble_eq_true rfl, ⟨rfl, rfl⟩⟩ (fun hfit => ?_)
        unfold F0 mark_pen_attr_E
        simp (config := { maxSteps := 2000000 }) only [markU, List.set_cons_succ, List.set_cons_zero, List.map_cons, List.map_nil, argCt, setCells, ioOf, List.length_cons, List.length_nil, Nat.reduceAdd, Nat.reduceSub, List.replicate, List.cons_append, List.nil_append]
        try simp (config := { maxSteps := 2000000 }) only [go_sem, reduceCtorEq, Nat.reduceAdd, Nat.reduceEqDiff, reduceIte, Nat.reduceLeDiff, Nat.reduceLT, Nat.reduceSub]
        all_goals (repeat (with_reducible refine sAnd ?_))
        refine call_val (by repeat' constructor) (c_pen_name s hn) ?_
        try simp (config := { maxSteps := 2000000 }) only [go_sem, reduceCtorEq, Nat.reduceAdd, Nat.reduceEqDiff, reduceIte, Nat.reduceLeDiff, Nat.reduceLT, Nat.reduceSub]
        all_goals (repeat (with_reducible refine sAnd ?_))
        refine call_un (by repeat' constructor) (c_pen_must (nmR s) [61, 34] hg) ?_
        try simp (config := { maxSteps := 2000000 }) only [go_sem, reduceCtorEq, Nat.reduceAdd, Nat.reduceEqDiff, reduceIte, Nat.reduceLeDiff, Nat.reduceLT, Nat.reduceSub]
        all_goals (repeat (with_reducible refine sAnd ?_))
        refine call_tup (by repeat' constructor) (c_strings_CutL hM (signR (nmR s) [61, 34]) [34, 93] (by omega)) ?_
        try simp (config := { maxSteps := 2000000 }) only [go_sem, reduceCtorEq, Nat.reduceAdd, Nat.reduceEqDiff, reduceIte, Nat.reduceLeDiff, Nat.reduceLT, Nat.reduceSub]
        all_goals (repeat (with_reducible refine sAnd ?_))
        apply call_guard (h2 := fun _ => c_doc_Value (attrCut s).1)
        · (simp (config := { maxSteps := 2000000 }) only [go_sem, reduceCtorEq, Nat.reduceAdd, Nat.reduceEqDiff, reduceIte, Nat.reduceLeDiff, Nat.reduceLT, Nat.reduceSub]; rfl)
        · intro h; repeat' (first | exact trivial | exact h | refine And.intro ?_ ?_)
        try simp (config := { maxSteps := 2000000 }) only [go_sem, reduceCtorEq, Nat.reduceAdd, Nat.reduceEqDiff, reduceIte, Nat.reduceLeDiff, Nat.reduceLT, Nat.reduceSub]
        all_goals (repeat (with_reducible refine sAnd ?_))
        refine cond_of (by rfl) trivial (fun h => ?_) (fun h => ?_)
        · try simp (config := { maxSteps := 2000000 }) only [go_sem, reduceCtorEq, Nat.reduceAdd, Nat.reduceEqDiff, reduceIte, Nat.reduceLeDiff, Nat.reduceLT, Nat.reduceSub]
          all_goals (repeat (with_reducible refine sAnd ?_))
          exact ⟨_, rfl, rfl⟩
        · exfalso
          unfold attrCut at hc h
          revert h hc
          cases (Lib.cut (signR (nmR s) [61, 34]) [34, 93]).2.2 <;> cases isValue (Lib.cut (signR (nmR s) [61, 34]) [34, 93]).1 <;> simp
      | true =>
        rw [attrRes_ok (by rw [hn, hg, Bool.true_and, Bool.true_and, hc])]
        refine mk_mark_pen_attr (base := 37) ⟨Nat.le_of_ble_eq_true rfl, Nat.le_of_ble_eq_true rfl, Nat.le_of_ble_eq_true rfl, ⟨rfl, rfl⟩⟩ (fun hfit => ?_)
        unfold F0 mark_pen_attr_E
        simp (config := { maxSteps := 2000000 }) only [markU, List.set_cons_succ, List.set_cons_zero, List.map_cons, List.map_nil, argCt, setCells, ioOf, List.length_cons, List.length_nil, Nat.reduceAdd, Nat.reduceSub, List.replicate, List.cons_append, List.nil_append]
        try simp (config := { maxSteps := 2000000 }) only [go_sem, reduceCtorEq, Nat.reduceAdd, Nat.reduceEqDiff, reduceIte, Nat.reduceLeDiff, Nat.reduceLT, Nat.reduceSub]
        all_goals (repeat (with_reducible refine sAnd ?_))
        refine call_val (by repeat' constructor) (c_pen_name s hn) ?_
        try simp (config := { maxSteps := 2000000 }) only [go_sem, reduceCtorEq, Nat.reduceAdd, Nat.reduceEqDiff, reduceIte, Nat.reduceLeDiff, Nat.reduceLT, Nat.reduceSub]
        all_goals (repeat (with_reducible refine sAnd ?_))
        refine call_un (by repeat' constructor) (c_pen_must (nmR s) [61, 34] hg) ?_
        try simp (config := { maxSteps := 2000000 }) only [go_sem, reduceCtorEq, Nat.reduceAdd, Nat.reduceEqDiff, reduceIte, Nat.reduceLeDiff, Nat.reduceLT, Nat.reduceSub]
        all_goals (repeat (with_reducible refine sAnd ?_))
        refine call_tup (by repeat' constructor) (c_strings_CutL hM (signR (nmR s) [61, 34]) [34, 93] (by omega)) ?_
        try simp (config := { maxSteps := 2000000 }) only [go_sem, reduceCtorEq, Nat.reduceAdd, Nat.reduceEqDiff, reduceIte, Nat.reduceLeDiff, Nat.reduceLT, Nat.reduceSub]
        all_goals (repeat (with_reducible refine sAnd ?_))
        apply call_guard (h2 := fun _ => c_doc_Value (attrCut s).1)
        · (simp (config := { maxSteps := 2000000 }) only [go_sem, reduceCtorEq, Nat.reduceAdd, Nat.reduceEqDiff, reduceIte, Nat.reduceLeDiff, Nat.reduceLT, Nat.reduceSub]; rfl)
        · intro h; repeat' (first | exact trivial | exact h | refine And.intro ?_ ?_)
        try simp (config := { maxSteps := 2000000 }) only [go_sem, reduceCtorEq, Nat.reduceAdd, Nat.reduceEqDiff, reduceIte, Nat.reduceLeDiff, Nat.reduceLT, Nat.reduceSub]
        all_goals (repeat (with_reducible refine sAnd ?_))
        refine cond_of (by rfl) trivial (fun h => ?_) (fun h => ?_)
        · exfalso
          unfold attrCut at hc h
          revert h hc
          cases (Lib.cut (signR (nmR s) [61, 34]) [34, 93]).2.2 <;> cases isValue (Lib.cut (signR (nmR s) [61, 34]) [34, 93]).1 <;> simp
        · try simp (config := { maxSteps := 2000000 }) only [go_sem, reduceCtorEq, Nat.reduceAdd, Nat.reduceEqDiff, reduceIte, Nat.reduceLeDiff, Nat.reduceLT, Nat.reduceSub]
          all_goals (repeat (with_reducible refine sAnd ?_))
          exact fin_cellBio rfl rfl rfl rfl rfl
end Go.Hx
end

section
-- DOM getO
set_option maxRecDepth 100000
set_option linter.unusedSimpArgs false
namespace Go.Hx
open Go.Proofs Go.RowKit
variable [Glob]

attribute [local go_sem] ndsV_len clsV_len attV_len intsR_len ndV cellsEq getO
/-! ### The strict reader: an element -/

def clsF : Nat → Bys → List Bys → Option (List Bys × Bys)
  | 0, s, l => some (l, s)
  | f + 1, s, l => if signOk s [46] then (if isName (nmOf (signR s [46])) then clsF f (nmR (signR s [46])) (l ++ [nmOf (signR s [46])]) else none) else some (l, s)
def attF : Nat → Bys → List (Bys × Bys) → Option (List (Bys × Bys) × Bys)
  | 0, s, l => some (l, s)
  | f + 1, s, l => if signOk s [91] then (match attrRd (signR s [91]) with | some (a, r) => attF f r (l ++ [a]) | none => none) else some (l, s)
def idRd (s : Bys) : Option (Bys × Bys) := if signOk s [35] then (if isName (nmOf (signR s [35])) then some (nmOf (signR s [35]), nmR (signR s [35])) else none) else some ([], s)
def nodeRd (up : Int) (s : Bys) : Option (Nd × Bys) :=
  if isName (nmOf s) then
    match idRd (nmR s) with
    | none => none
    | some (i, s2) => match clsF (s2.length + 1) s2 [] with
      | none => none
      | some (c, s3) => match attF (s3.length + 1) s3 [] with
        | none => none
        | some (a, s4) => some ({ up := up, tag := nmOf s, id := i, cls := c, att := a }, s4)
  else none
def nodeRes (up : Int) (s : Bys) : RV := match nodeRd up s with
  | some (x, r) => { res := .val (.agg (ndV x)), io := [bS r] }
  | none => { res := .pan bkV }
theorem sign_drop {s : Bys} {c : UInt8} (h : signOk s [c] = true) : (signR s [c]).length + 1 = s.length := by
  unfold signR
  rw [if_pos h]
  unfold signOk at h
  simp only [Bool.and_eq_true, decide_eq_true_eq, List.length_cons, List.length_nil] at h
  simp only [List.length_cons, List.length_nil, List.length_drop]
  omega
theorem clsV_app (a b : List Bys) : clsV (a ++ b) = clsV a ++ clsV b := by simp [clsV]
theorem attV_app (a b : List (Bys × Bys)) : attV (a ++ b) = attV a ++ attV b := by simp [attV]
theorem attrRd_len {s : Bys} {a : Bys × Bys} {r : Bys} (h : attrRd s = some (a, r)) : r.length ≤ s.length := by
  unfold attrRd at h
  split at h
  · injection h with h
    injection h with _ h
    rw [← h]
    exact Nat.le_trans (cut_le _ _).2 (Nat.le_trans (signR_len _ _) (nmR_len _))
  · cases h

/-- The classes and the attributes, and the element's end. -/
theorem c_pen_node (hM : MaxOk) (up : Int) (s : Bys) (hs : s.length ≤ 1048576) : Contract Tryd.prog fn_mark_pen_node [.io [bS s], .val (iv up)] (nodeRes up s) := by
  cases hn : isName (nmOf s) with
  | false =>
    have e : nodeRes up s = { res := .pan bkV } := by unfold nodeRes nodeRd; rw [hn]; rfl
    rw [e]
    refine mk_mark_pen_node (base := 34) ⟨Nat.le_of_ble_eq_true rfl, Nat.le_of_ble_eq_true rfl, Nat.le_of_ble_eq_true rfl, ⟨rfl, rfl⟩⟩ (fun hfit => ?_)
    unfold F0 mark_pen_node_E
    simp (config := { maxSteps := 2000000 }) only [markU, List.set_cons_succ, List.set_cons_zero, List.map_cons, List.map_nil, argCt, setCells, ioOf, List.length_cons, List.length_nil, Nat.reduceAdd, Nat.reduceSub, List.replicate, List.cons_append, List.nil_append]
    try simp (config := { maxSteps := 2000000 }) only [go_sem, reduceCtorEq, Nat.reduceAdd, Nat.reduceEqDiff, reduceIte, Nat.reduceLeDiff, Nat.reduceLT, Nat.reduceSub]
    all_goals (repeat (with_reducible refine sAnd ?_))
    refine call_pan (by repeat' constructor) (c_pen_name_pan s hn) ?_
    try simp (config := { maxSteps := 2000000 }) only [go_sem, reduceCtorEq, Nat.reduceAdd, Nat.reduceEqDiff, reduceIte, Nat.reduceLeDiff, Nat.reduceLT, Nat.reduceSub]
    all_goals (repeat (with_reducible refine sAnd ?_))
    exact ⟨_, rfl, rfl⟩
  | true =>
    have hr1 := nmR_len s
    have key : ∀ (i s2 : Bys), idRd (nmR s) = some (i, s2) → s2.length ≤ s.length := by
      intro i s2 h
      unfold idRd at h
      split at h
      · split at h
        · injection h with h
          injection h with _ h
          rw [← h]
          exact Nat.le_trans (nmR_len _) (Nat.le_trans (signR_len _ _) hr1)
        · cases h
      · injection h with h
        injection h with _ h
        rw [← h]; exact hr1
    refine mk_mark_pen_node (base := 34) ⟨Nat.le_of_ble_eq_true rfl, Nat.le_of_ble_eq_true rfl, Nat.le_of_ble_eq_true rfl, ⟨rfl, rfl⟩⟩ (fun hfit => ?_) (fun _ _ => rfl)
    unfold F0 mark_pen_node_E
    simp (config := { maxSteps := 2000000 }) only [markU, List.set_cons_succ, List.set_cons_zero, List.map_cons, List.map_nil, argCt, setCells, ioOf, List.length_cons, List.length_nil, Nat.reduceAdd, Nat.reduceSub, List.replicate, List.cons_append, List.nil_append]
    try simp (config := { maxSteps := 2000000 }) only [go_sem, reduceCtorEq, Nat.reduceAdd, Nat.reduceEqDiff, reduceIte, Nat.reduceLeDiff, Nat.reduceLT, Nat.reduceSub]
    all_goals (repeat (with_reducible refine sAnd ?_))
    refine call_val (by repeat' constructor) (c_pen_name s hn) ?_
    try simp (config := { maxSteps := 2000000 }) only [go_sem, reduceCtorEq, Nat.reduceAdd, Nat.reduceEqDiff, reduceIte, Nat.reduceLeDiff, Nat.reduceLT, Nat.reduceSub]
    all_goals (repeat (with_reducible refine sAnd ?_))
    refine call_val (by repeat' constructor) (c_pen_has (nmR s) [35]) ?_
    try simp (config := { maxSteps := 2000000 }) only [go_sem, reduceCtorEq, Nat.reduceAdd, Nat.reduceEqDiff, reduceIte, Nat.reduceLeDiff, Nat.reduceLT, Nat.reduceSub]
    all_goals (repeat (with_reducible refine sAnd ?_))
    refine cond_of (by rfl) trivial (fun h => ?_) (fun h => ?_)
    · cases hn2 : isName (nmOf (signR (nmR s) [35])) with
      | false =>
        have e : nodeRes up s = { res := .pan bkV } := by unfold nodeRes nodeRd idRd; rw [hn, h, hn2]; rfl
        rw [e]
        try simp (config := { maxSteps := 2000000 }) only [go_sem, reduceCtorEq, Nat.reduceAdd, Nat.reduceEqDiff, reduceIte, Nat.reduceLeDiff, Nat.reduceLT, Nat.reduceSub]
        all_goals (repeat (with_reducible refine sAnd ?_))
        refine call_pan (by repeat' constructor) (c_pen_name_pan _ hn2) ?_
        try simp (config := { maxSteps := 2000000 }) only [go_sem, reduceCtorEq, Nat.reduceAdd, Nat.reduceEqDiff, reduceIte, Nat.reduceLeDiff, Nat.reduceLT, Nat.reduceSub]
        all_goals (repeat (with_reducible refine sAnd ?_))
        exact ⟨_, rfl, rfl⟩
      | true =>
        try simp (config := { maxSteps := 2000000 }) only [go_sem, reduceCtorEq, Nat.reduceAdd, Nat.reduceEqDiff, reduceIte, Nat.reduceLeDiff, Nat.reduceLT, Nat.reduceSub]
        all_goals (repeat (with_reducible refine sAnd ?_))
        refine call_val (by repeat' constructor) (c_pen_name _ hn2) ?_
        try simp (config := { maxSteps := 2000000 }) only [go_sem, reduceCtorEq, Nat.reduceAdd, Nat.reduceEqDiff, reduceIte, Nat.reduceLeDiff, Nat.reduceLT, Nat.reduceSub]
        all_goals (repeat (with_reducible refine sAnd ?_))
        have hid : idRd (nmR s) = some (nmOf (signR (nmR s) [35]), nmR (signR (nmR s) [35])) := by unfold idRd; rw [h, hn2]; rfl
        have hS := key _ _ hid
        refine loop_sets (fun x : Nat × List Bys × Bys => [(34, .pv (.one (bS x.2.2))), (43, .own ty_string 1 (clsV x.2.1)), (16, .un)]) (fun x : Nat × List Bys × Bys => x.1) (fun x : Nat × List Bys × Bys => x.2.2.length < x.1 ∧ x.2.1.length + x.2.2.length ≤ (nmR (signR (nmR s) [35])).length ∧ clsF x.1 x.2.2 x.2.1 = clsF ((nmR (signR (nmR s) [35])).length + 1) (nmR (signR (nmR s) [35])) []) (((nmR (signR (nmR s) [35])).length + 1, [], nmR (signR (nmR s) [35]))) ?_ ⟨Nat.lt_succ_self _, by simp, rfl⟩ ?_
        focus (simp (config := { maxSteps := 2000000 }) only [go_sem, reduceCtorEq, Nat.reduceAdd, Nat.reduceEqDiff, reduceIte, Nat.reduceLeDiff, Nat.reduceLT, Nat.reduceSub, le_cons, le_nil, le_un, le_same]; all_goals (repeat' (first | exact trivial | exact le_int (by omega) | exact le_bool rfl | exact le_eq rfl | exact le_nlo | exact le_refl _ | refine And.intro ?_ ?_)))
        rintro ⟨f, l, r⟩ ⟨h1, h2, h3⟩
        simp only at h1 h2 h3
        obtain ⟨f', rfl⟩ : ∃ f', f = f' + 1 := ⟨f - 1, by omega⟩
        rw [clsF] at h3
        try simp (config := { maxSteps := 2000000 }) only [go_sem, reduceCtorEq, Nat.reduceAdd, Nat.reduceEqDiff, reduceIte, Nat.reduceLeDiff, Nat.reduceLT, Nat.reduceSub]
        all_goals (repeat (with_reducible refine sAnd ?_))
        refine call_val (by repeat' constructor) (c_pen_has r [46]) ?_
        try simp (config := { maxSteps := 2000000 }) only [go_sem, reduceCtorEq, Nat.reduceAdd, Nat.reduceEqDiff, reduceIte, Nat.reduceLeDiff, Nat.reduceLT, Nat.reduceSub]
        all_goals (repeat (with_reducible refine sAnd ?_))
        refine cond_of (by rfl) trivial (fun g1 => ?_) (fun g1 => ?_)
        · rw [g1, if_pos rfl] at h3
          have hd := sign_drop g1
          cases g2 : isName (nmOf (signR r [46])) with
          | false =>
            rw [g2, if_neg (by simp)] at h3
            have e : nodeRes up s = { res := .pan bkV } := by unfold nodeRes nodeRd; rw [hn, if_pos rfl, hid]; simp only [← h3]
            rw [e]
            try simp (config := { maxSteps := 2000000 }) only [go_sem, reduceCtorEq, Nat.reduceAdd, Nat.reduceEqDiff, reduceIte, Nat.reduceLeDiff, Nat.reduceLT, Nat.reduceSub]
            all_goals (repeat (with_reducible refine sAnd ?_))
            refine call_pan (by repeat' constructor) (c_pen_name_pan _ g2) ?_
            try simp (config := { maxSteps := 2000000 }) only [go_sem, reduceCtorEq, Nat.reduceAdd, Nat.reduceEqDiff, reduceIte, Nat.reduceLeDiff, Nat.reduceLT, Nat.reduceSub]
            all_goals (repeat (with_reducible refine sAnd ?_))
            intro F' _
            exact ⟨_, rfl, rfl⟩
          | true =>
            rw [g2, if_pos rfl] at h3
            have hnr := nmR_len (signR r [46])
            try simp (config := { maxSteps := 2000000 }) only [go_sem, reduceCtorEq, Nat.reduceAdd, Nat.reduceEqDiff, reduceIte, Nat.reduceLeDiff, Nat.reduceLT, Nat.reduceSub, clsV_len]
            all_goals (repeat (with_reducible refine sAnd ?_))
            refine call_val (by repeat' constructor) (c_pen_name _ g2) ?_
            try simp (config := { maxSteps := 2000000 }) only [go_sem, reduceCtorEq, Nat.reduceAdd, Nat.reduceEqDiff, reduceIte, Nat.reduceLeDiff, Nat.reduceLT, Nat.reduceSub, clsV_len]
            all_goals (repeat (with_reducible refine sAnd ?_))
            refine ⟨(f', l ++ [nmOf (signR r [46])], nmR (signR r [46])), by simp only; omega, ⟨by simp only; omega, by simp only [List.length_append, List.length_cons, List.length_nil]; omega, h3⟩, ?_⟩
            simp (config := { maxSteps := 2000000 }) only [go_sem, reduceCtorEq, Nat.reduceAdd, Nat.reduceEqDiff, reduceIte, Nat.reduceLeDiff, Nat.reduceLT, Nat.reduceSub, le_cons, le_nil, le_un, le_same]
            all_goals (repeat' (first | exact trivial | exact le_int (by omega) | exact le_bool rfl | exact le_eq rfl | exact le_nlo | exact le_refl _ | refine And.intro ?_ ?_))
            all_goals first | exact le_eq (by rw [clsV_app]; rfl) | exact le_same | rfl
        · rw [g1, if_neg (by simp)] at h3
          have e1 : signR r [46] = r := by unfold signR; rw [g1]; rfl
          try simp (config := { maxSteps := 2000000 }) only [go_sem, reduceCtorEq, Nat.reduceAdd, Nat.reduceEqDiff, reduceIte, Nat.reduceLeDiff, Nat.reduceLT, Nat.reduceSub]
          all_goals (repeat (with_reducible refine sAnd ?_))
          rw [e1]
          refine loop_sets (fun x : Nat × List (Bys × Bys) × Bys => [(34, .pv (.one (bS x.2.2))), (44, .own ty_api_Attr 2 (attV x.2.1)), (25, .un)]) (fun x : Nat × List (Bys × Bys) × Bys => x.1) (fun x : Nat × List (Bys × Bys) × Bys => x.2.2.length < x.1 ∧ x.2.1.length + x.2.2.length ≤ r.length ∧ attF x.1 x.2.2 x.2.1 = attF (r.length + 1) r []) ((r.length + 1, [], r)) ?_ ⟨Nat.lt_succ_self _, by simp, rfl⟩ ?_
          focus (simp (config := { maxSteps := 2000000 }) only [go_sem, reduceCtorEq, Nat.reduceAdd, Nat.reduceEqDiff, reduceIte, Nat.reduceLeDiff, Nat.reduceLT, Nat.reduceSub, le_cons, le_nil, le_un, le_same]; all_goals (repeat' (first | exact trivial | exact le_int (by omega) | exact le_bool rfl | exact le_eq rfl | exact le_nlo | exact le_refl _ | refine And.intro ?_ ?_)))
          rintro ⟨q, l2, r2⟩ ⟨k1, k2, k3⟩
          simp only at k1 k2 k3
          obtain ⟨q', rfl⟩ : ∃ q', q = q' + 1 := ⟨q - 1, by omega⟩
          rw [attF] at k3
          try simp (config := { maxSteps := 2000000 }) only [go_sem, reduceCtorEq, Nat.reduceAdd, Nat.reduceEqDiff, reduceIte, Nat.reduceLeDiff, Nat.reduceLT, Nat.reduceSub]
          all_goals (repeat (with_reducible refine sAnd ?_))
          refine call_val (by repeat' constructor) (c_pen_has r2 [91]) ?_
          try simp (config := { maxSteps := 2000000 }) only [go_sem, reduceCtorEq, Nat.reduceAdd, Nat.reduceEqDiff, reduceIte, Nat.reduceLeDiff, Nat.reduceLT, Nat.reduceSub]
          all_goals (repeat (with_reducible refine sAnd ?_))
          refine cond_of (by rfl) trivial (fun g3 => ?_) (fun g3 => ?_)
          · rw [g3, if_pos rfl] at k3
            have hd := sign_drop g3
            have hlr : (signR r2 [91]).length ≤ 1048576 := by omega
            have hA := c_pen_attr hM (signR r2 [91]) hlr
            cases g4 : attrRd (signR r2 [91]) with
            | none =>
              rw [g4] at k3
              simp only at k3
              have e2 : attrRes (signR r2 [91]) = { res := .pan bkV } := by unfold attrRes; rw [g4]
              rw [e2] at hA
              have e : nodeRes up s = { res := .pan bkV } := by unfold nodeRes nodeRd; rw [hn, if_pos rfl, hid]; simp only [← h3, ← k3]
              rw [e]
              try simp (config := { maxSteps := 2000000 }) only [go_sem, reduceCtorEq, Nat.reduceAdd, Nat.reduceEqDiff, reduceIte, Nat.reduceLeDiff, Nat.reduceLT, Nat.reduceSub]
              all_goals (repeat (with_reducible refine sAnd ?_))
              refine call_pan (by repeat' constructor) hA ?_
              try simp (config := { maxSteps := 2000000 }) only [go_sem, reduceCtorEq, Nat.reduceAdd, Nat.reduceEqDiff, reduceIte, Nat.reduceLeDiff, Nat.reduceLT, Nat.reduceSub]
              all_goals (repeat (with_reducible refine sAnd ?_))
              intro F' _
              exact ⟨_, rfl, rfl⟩
            | some ar =>
              obtain ⟨a, t⟩ := ar
              rw [g4] at k3
              simp only at k3
              have ht := attrRd_len g4
              have e2 : attrRes (signR r2 [91]) = { res := .val (.agg [bS a.1, bS a.2]), io := [bS t] } := by unfold attrRes; rw [g4]
              rw [e2] at hA
              try simp (config := { maxSteps := 2000000 }) only [go_sem, reduceCtorEq, Nat.reduceAdd, Nat.reduceEqDiff, reduceIte, Nat.reduceLeDiff, Nat.reduceLT, Nat.reduceSub, attV_len]
              all_goals (repeat (with_reducible refine sAnd ?_))
              refine call_val (by repeat' constructor) (hA) ?_
              try simp (config := { maxSteps := 2000000 }) only [go_sem, reduceCtorEq, Nat.reduceAdd, Nat.reduceEqDiff, reduceIte, Nat.reduceLeDiff, Nat.reduceLT, Nat.reduceSub, attV_len]
              all_goals (repeat (with_reducible refine sAnd ?_))
              refine ⟨(q', l2 ++ [a], t), by simp only; omega, ⟨by simp only; omega, by simp only [List.length_append, List.length_cons, List.length_nil]; omega, k3⟩, ?_⟩
              simp (config := { maxSteps := 2000000 }) only [go_sem, reduceCtorEq, Nat.reduceAdd, Nat.reduceEqDiff, reduceIte, Nat.reduceLeDiff, Nat.reduceLT, Nat.reduceSub, le_cons, le_nil, le_un, le_same]
              all_goals (repeat' (first | exact trivial | exact le_int (by omega) | exact le_bool rfl | exact le_eq rfl | exact le_nlo | exact le_refl _ | refine And.intro ?_ ?_))
              all_goals first | exact le_eq (by rw [attV_app]; rfl) | exact le_same | rfl
          · rw [g3, if_neg (by simp)] at k3
            have e3 : signR r2 [91] = r2 := by unfold signR; rw [g3]; rfl
            have e : nodeRes up s = { res := .val (.agg (ndV { up := up, tag := nmOf s, id := nmOf (signR (nmR s) [35]), cls := l, att := l2 })), io := [bS r2] } := by unfold nodeRes nodeRd; rw [hn, if_pos rfl, hid]; simp only [← h3, ← k3]
            rw [e]
            try simp (config := { maxSteps := 2000000 }) only [go_sem, reduceCtorEq, Nat.reduceAdd, Nat.reduceEqDiff, reduceIte, Nat.reduceLeDiff, Nat.reduceLT, Nat.reduceSub]
            all_goals (repeat (with_reducible refine sAnd ?_))
            rw [e3]
            exact fin_cellBio rfl rfl rfl rfl rfl
    · have e0 : signR (nmR s) [35] = nmR s := by unfold signR; rw [h]; rfl
      try simp (config := { maxSteps := 2000000 }) only [go_sem, reduceCtorEq, Nat.reduceAdd, Nat.reduceEqDiff, reduceIte, Nat.reduceLeDiff, Nat.reduceLT, Nat.reduceSub]
      all_goals (repeat (with_reducible refine sAnd ?_))
      rw [e0]
      have hid : idRd (nmR s) = some ([], nmR s) := by unfold idRd; rw [h]; rfl
      have hS := key _ _ hid
      refine loop_sets (fun x : Nat × List Bys × Bys => [(34, .pv (.one (bS x.2.2))), (43, .own ty_string 1 (clsV x.2.1)), (16, .un)]) (fun x : Nat × List Bys × Bys => x.1) (fun x : Nat × List Bys × Bys => x.2.2.length < x.1 ∧ x.2.1.length + x.2.2.length ≤ (nmR s).length ∧ clsF x.1 x.2.2 x.2.1 = clsF ((nmR s).length + 1) (nmR s) []) (((nmR s).length + 1, [], nmR s)) ?_ ⟨Nat.lt_succ_self _, by simp, rfl⟩ ?_
      focus (simp (config := { maxSteps := 2000000 }) only [go_sem, reduceCtorEq, Nat.reduceAdd, Nat.reduceEqDiff, reduceIte, Nat.reduceLeDiff, Nat.reduceLT, Nat.reduceSub, le_cons, le_nil, le_un, le_same]; all_goals (repeat' (first | exact trivial | exact le_int (by omega) | exact le_bool rfl | exact le_eq rfl | exact le_nlo | exact le_refl _ | refine And.intro ?_ ?_)))
      rintro ⟨f, l, r⟩ ⟨h1, h2, h3⟩
      simp only at h1 h2 h3
      obtain ⟨f', rfl⟩ : ∃ f', f = f' + 1 := ⟨f - 1, by omega⟩
      rw [clsF] at h3
      try simp (config := { maxSteps := 2000000 }) only [go_sem, reduceCtorEq, Nat.reduceAdd, Nat.reduceEqDiff, reduceIte, Nat.reduceLeDiff, Nat.reduceLT, Nat.reduceSub]
      all_goals (repeat (with_reducible refine sAnd ?_))
      refine call_val (by repeat' constructor) (c_pen_has r [46]) ?_
      try simp (config := { maxSteps := 2000000 }) only [go_sem, reduceCtorEq, Nat.reduceAdd, Nat.reduceEqDiff, reduceIte, Nat.reduceLeDiff, Nat.reduceLT, Nat.reduceSub]
      all_goals (repeat (with_reducible refine sAnd ?_))
      refine cond_of (by rfl) trivial (fun g1 => ?_) (fun g1 => ?_)
      · rw [g1, if_pos rfl] at h3
        have hd := sign_drop g1
        cases g2 : isName (nmOf (signR r [46])) with
        | false =>
          rw [g2, if_neg (by simp)] at h3
          have e : nodeRes up s = { res := .pan bkV } := by unfold nodeRes nodeRd; rw [hn, if_pos rfl, hid]; simp only [← h3]
          rw [e]
          try simp (config := { maxSteps := 2000000 }) only [go_sem, reduceCtorEq, Nat.reduceAdd, Nat.reduceEqDiff, reduceIte, Nat.reduceLeDiff, Nat.reduceLT, Nat.reduceSub]
          all_goals (repeat (with_reducible refine sAnd ?_))
          refine call_pan (by repeat' constructor) (c_pen_name_pan _ g2) ?_
          try simp (config := { maxSteps := 2000000 }) only [go_sem, reduceCtorEq, Nat.reduceAdd, Nat.reduceEqDiff, reduceIte, Nat.reduceLeDiff, Nat.reduceLT, Nat.reduceSub]
          all_goals (repeat (with_reducible refine sAnd ?_))
          intro F' _
          exact ⟨_, rfl, rfl⟩
        | true =>
          rw [g2, if_pos rfl] at h3
          have hnr := nmR_len (signR r [46])
          try simp (config := { maxSteps := 2000000 }) only [go_sem, reduceCtorEq, Nat.reduceAdd, Nat.reduceEqDiff, reduceIte, Nat.reduceLeDiff, Nat.reduceLT, Nat.reduceSub, clsV_len]
          all_goals (repeat (with_reducible refine sAnd ?_))
          refine call_val (by repeat' constructor) (c_pen_name _ g2) ?_
          try simp (config := { maxSteps := 2000000 }) only [go_sem, reduceCtorEq, Nat.reduceAdd, Nat.reduceEqDiff, reduceIte, Nat.reduceLeDiff, Nat.reduceLT, Nat.reduceSub, clsV_len]
          all_goals (repeat (with_reducible refine sAnd ?_))
          refine ⟨(f', l ++ [nmOf (signR r [46])], nmR (signR r [46])), by simp only; omega, ⟨by simp only; omega, by simp only [List.length_append, List.length_cons, List.length_nil]; omega, h3⟩, ?_⟩
          simp (config := { maxSteps := 2000000 }) only [go_sem, reduceCtorEq, Nat.reduceAdd, Nat.reduceEqDiff, reduceIte, Nat.reduceLeDiff, Nat.reduceLT, Nat.reduceSub, le_cons, le_nil, le_un, le_same]
          all_goals (repeat' (first | exact trivial | exact le_int (by omega) | exact le_bool rfl | exact le_eq rfl | exact le_nlo | exact le_refl _ | refine And.intro ?_ ?_))
          all_goals first | exact le_eq (by rw [clsV_app]; rfl) | exact le_same | rfl
      · rw [g1, if_neg (by simp)] at h3
        have e1 : signR r [46] = r := by unfold signR; rw [g1]; rfl
        try simp (config := { maxSteps := 2000000 }) only [go_sem, reduceCtorEq, Nat.reduceAdd, Nat.reduceEqDiff, reduceIte, Nat.reduceLeDiff, Nat.reduceLT, Nat.reduceSub]
        all_goals (repeat (with_reducible refine sAnd ?_))
        rw [e1]
        refine loop_sets (fun x : Nat × List (Bys × Bys) × Bys => [(34, .pv (.one (bS x.2.2))), (44, .own ty_api_Attr 2 (attV x.2.1)), (25, .un)]) (fun x : Nat × List (Bys × Bys) × Bys => x.1) (fun x : Nat × List (Bys × Bys) × Bys => x.2.2.length < x.1 ∧ x.2.1.length + x.2.2.length ≤ r.length ∧ attF x.1 x.2.2 x.2.1 = attF (r.length + 1) r []) ((r.length + 1, [], r)) ?_ ⟨Nat.lt_succ_self _, by simp, rfl⟩ ?_
        focus (simp (config := { maxSteps := 2000000 }) only [go_sem, reduceCtorEq, Nat.reduceAdd, Nat.reduceEqDiff, reduceIte, Nat.reduceLeDiff, Nat.reduceLT, Nat.reduceSub, le_cons, le_nil, le_un, le_same]; all_goals (repeat' (first | exact trivial | exact le_int (by omega) | exact le_bool rfl | exact le_eq rfl | exact le_nlo | exact le_refl _ | refine And.intro ?_ ?_)))
        rintro ⟨q, l2, r2⟩ ⟨k1, k2, k3⟩
        simp only at k1 k2 k3
        obtain ⟨q', rfl⟩ : ∃ q', q = q' + 1 := ⟨q - 1, by omega⟩
        rw [attF] at k3
        try simp (config := { maxSteps := 2000000 }) only [go_sem, reduceCtorEq, Nat.reduceAdd, Nat.reduceEqDiff, reduceIte, Nat.reduceLeDiff, Nat.reduceLT, Nat.reduceSub]
        all_goals (repeat (with_reducible refine sAnd ?_))
        refine call_val (by repeat' constructor) (c_pen_has r2 [91]) ?_
        try simp (config := { maxSteps := 2000000 }) only [go_sem, reduceCtorEq, Nat.reduceAdd, Nat.reduceEqDiff, reduceIte, Nat.reduceLeDiff, Nat.reduceLT, Nat.reduceSub]
        all_goals (repeat (with_reducible refine sAnd ?_))
        refine cond_of (by rfl) trivial (fun g3 => ?_) (fun g3 => ?_)
        · rw [g3, if_pos rfl] at k3
          have hd := sign_drop g3
          have hlr : (signR r2 [91]).length ≤ 1048576 := by omega
          have hA := c_pen_attr hM (signR r2 [91]) hlr
          cases g4 : attrRd (signR r2 [91]) with
          | none =>
            rw [g4] at k3
            simp only at k3
            have e2 : attrRes (signR r2 [91]) = { res := .pan bkV } := by unfold attrRes; rw [g4]
            rw [e2] at hA
            have e : nodeRes up s = { res := .pan bkV } := by unfold nodeRes nodeRd; rw [hn, if_pos rfl, hid]; simp only [← h3, ← k3]
            rw [e]
            try simp (config := { maxSteps := 2000000 }) only [go_sem, reduceCtorEq, Nat.reduceAdd, Nat.reduceEqDiff, reduceIte, Nat.reduceLeDiff, Nat.reduceLT, Nat.reduceSub]
            all_goals (repeat (with_reducible refine sAnd ?_))
            refine call_pan (by repeat' constructor) hA ?_
            try simp (config := { maxSteps := 2000000 }) only [go_sem, reduceCtorEq, Nat.reduceAdd, Nat.reduceEqDiff, reduceIte, Nat.reduceLeDiff, Nat.reduceLT, Nat.reduceSub]
            all_goals (repeat (with_reducible refine sAnd ?_))
            intro F' _
            exact ⟨_, rfl, rfl⟩
          | some ar =>
            obtain ⟨a, t⟩ := ar
            rw [g4] at k3
            simp only at k3
            have ht := attrRd_len g4
            have e2 : attrRes (signR r2 [91]) = { res := .val (.agg [bS a.1, bS a.2]), io := [bS t] } := by unfold attrRes; rw [g4]
            rw [e2] at hA
            try simp (config := { maxSteps := 2000000 }) only [go_sem, reduceCtorEq, Nat.reduceAdd, Nat.reduceEqDiff, reduceIte, Nat.reduceLeDiff, Nat.reduceLT, Nat.reduceSub, attV_len]
            all_goals (repeat (with_reducible refine sAnd ?_))
            refine call_val (by repeat' constructor) (hA) ?_
            try simp (config := { maxSteps := 2000000 }) only [go_sem, reduceCtorEq, Nat.reduceAdd, Nat.reduceEqDiff, reduceIte, Nat.reduceLeDiff, Nat.reduceLT, Nat.reduceSub, attV_len]
            all_goals (repeat (with_reducible refine sAnd ?_))
            refine ⟨(q', l2 ++ [a], t), by simp only; omega, ⟨by simp only; omega, by simp only [List.length_append, List.length_cons, List.length_nil]; omega, k3⟩, ?_⟩
            simp (config := { maxSteps := 2000000 }) only [go_sem, reduceCtorEq, Nat.reduceAdd, Nat.reduceEqDiff, reduceIte, Nat.reduceLeDiff, Nat.reduceLT, Nat.reduceSub, le_cons, le_nil, le_un, le_same]
            all_goals (repeat' (first | exact trivial | exact le_int (by omega) | exact le_bool rfl | exact le_eq rfl | exact le_nlo | exact le_refl _ | refine And.intro ?_ ?_))
            all_goals first | exact le_eq (by rw [attV_app]; rfl) | exact le_same | rfl
        · rw [g3, if_neg (by simp)] at k3
          have e3 : signR r2 [91] = r2 := by unfold signR; rw [g3]; rfl
          have e : nodeRes up s = { res := .val (.agg (ndV { up := up, tag := nmOf s, id := [], cls := l, att := l2 })), io := [bS r2] } := by unfold nodeRes nodeRd; rw [hn, if_pos rfl, hid]; simp only [← h3, ← k3]
          rw [e]
          try simp (config := { maxSteps := 2000000 }) only [go_sem, reduceCtorEq, Nat.reduceAdd, Nat.reduceEqDiff, reduceIte, Nat.reduceLeDiff, Nat.reduceLT, Nat.reduceSub]
          all_goals (repeat (with_reducible refine sAnd ?_))
          rw [e3]
          exact fin_cellBio rfl rfl rfl rfl rfl
end Go.Hx
end
