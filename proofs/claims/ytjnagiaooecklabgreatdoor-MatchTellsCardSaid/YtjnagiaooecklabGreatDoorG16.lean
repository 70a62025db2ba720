/-
  Walks of functions of the program over an abstract layer, and the laws that they use: each contract says what the function computes, for every input that its conditions let by. No other condition.
-/
import Derived.Test.YtjnagiaooecklabGreatDoorG15
import Derived.Test.YtjnagiaooecklabGreatDoorG12
import Derived.Test.YtjnagiaooecklabGreatDoorG10
set_option linter.all false
section
set_option maxRecDepth 100000
set_option linter.unusedSimpArgs false
set_option maxHeartbeats 2000000
namespace Go.Hx
open Go.Proofs
variable [Glob]
attribute [local go_sem] zAx zAy zAw zAs ndV zAv zAp zAM zBd zBp zBo
attribute [local go_sem] reduceCtorEq Nat.reduceAdd Nat.reduceEqDiff reduceIte Nat.reduceLeDiff Nat.reduceLT Nat.reduceSub
def zX7 {α : Type} (p : α → Bool) (l : List α) : Int := if l.any p then (l.findIdx p : Int) else -1
theorem zVy {α : Type} (p : α → Bool) (l : List α) : decide (0 ≤ zX7 p l) = l.any p := by
 unfold zX7
 cases h : l.any p <;> simp
theorem zKU {α : Type} {d : α} {p : α → Bool} {l : List α} (h : ∀ k, k < l.length → p (l.getD k d) = false) : zX7 p l = -1 := by
 unfold zX7
 have : l.any p = false := by
  rw [List.any_eq_false]
  intro x hx
  obtain ⟨k, hk, rfl⟩ := List.getElem_of_mem hx
  have := h k hk
  simp [hk] at this
  simp [this]
 rw [this]; rfl
theorem zKV {α : Type} {d : α} {p : α → Bool} {l : List α} {i : Nat} (hi : i < l.length) (h1 : p (l.getD i d) = true) (h : ∀ k, k < i → p (l.getD k d) = false) : zX7 p l = i := by
 unfold zX7
 have h2 : p l[i] = true := by simpa [hi] using h1
 have : l.any p = true := List.any_eq_true.2 ⟨l[i], List.getElem_mem hi, h2⟩
 rw [if_pos this, (List.findIdx_eq hi).2 ⟨h2, fun j hj => by have := h j hj; simpa [show j < l.length by omega] using this⟩]
theorem zZS (f : Nat) (caps : List PV) (l : List Pt) (p : Pt → Bool) (h : ∀ i, i < l.length → Contract Tryz.prog f ([.val (.agg [.sl 2 (zLd (l.getD i default).steps), .sl 1 (zBB (l.getD i default).links)])] ++ caps.map fun c => .val (.one c)) { res := .val (bv (p (l.getD i default))) }) :
  Contract Tryz.prog zBV [.val (.one (.sl 2 (zJS l))), .val (.one (.clo f caps))] { res := .val (iv (zX7 p l)) } := by
 refine mkA zFP (base := 0) (fo rfl) (fun hfit => ?_)
 unfold F0 zDn
 simp (maxSteps := 2000000) only [zAD, List.set_cons_succ, List.set_cons_zero, List.map_cons, List.map_nil, zAC, zAa, ioOf, List.length_cons, List.length_nil, Nat.reduceAdd, Nat.reduceSub, List.replicate, List.cons_append, List.nil_append]
 try simp (maxSteps := 2000000) only [go_sem]
 repeat with_reducible refine zAc ?_
 have ha := zFh (k := 2) hfit.1
 rw [zBd] at ha
 refine zAm (fun i : Nat => [(8, .pv (iv i)), (4, .un), (5, .un), (9, .un), (16, .un)]) (fun i : Nat => l.length - i) (fun i : Nat => i ≤ l.length ∧ ∀ k, k < i → p (l.getD k default) = false) (0) ?_ ⟨Nat.zero_le _, fun k hk => by omega⟩ ?_
 focus (simp (maxSteps := 2000000) only [go_sem, zAe, zAj, zAt, zAf]; all_goals (repeat' (first | exact trivial | exact zAk (by omega) | exact zAg rfl | exact zAq rfl | exact zAl | exact le_refl _ | refine And.intro ?_ ?_)))
 rintro i ⟨hi, hinv⟩
 try simp (maxSteps := 2000000) only [go_sem]
 repeat with_reducible refine zAc ?_
 refine zAb (by rfl) trivial (fun h2 => ?_) (fun h2 => ?_)
 ·have hil : i < l.length := by simp at h2; omega
  have e1 := zE3 l i hil
  rw [zD2] at e1
  have hc := h i hil
  try simp (maxSteps := 2000000) only [go_sem, e1]
  repeat with_reducible refine zAc ?_
  refine zDL (by rfl) trivial (by repeat' constructor) (hc) ?_
  try simp (maxSteps := 2000000) only [go_sem]
  repeat with_reducible refine zAc ?_
  refine zAb (by rfl) trivial (fun h3 => ?_) (fun h3 => ?_)
  ·try simp (maxSteps := 2000000) only [go_sem]
   repeat with_reducible refine zAc ?_
   refine zAd rfl trivial (.inl ?_)
   congr 3
   exact zKV hil h3 hinv
  ·try simp (maxSteps := 2000000) only [go_sem]
   repeat with_reducible refine zAc ?_
   refine ⟨i + 1, by omega, ⟨by omega, fun k hk => ?_⟩, ?_⟩
   ·by_cases e : k = i
    ·rw [e]; exact h3
    ·exact hinv k (by omega)
   ·simp (maxSteps := 2000000) only [go_sem, zAe, zAj, zAt, zAf]
    all_goals (repeat' (first | exact trivial | exact zAk (by omega) | exact zAg rfl | exact zAq rfl | exact zAl | exact le_refl _ | refine And.intro ?_ ?_))
 ·have hil : i = l.length := by simp at h2; omega
  try simp (maxSteps := 2000000) only [go_sem]
  repeat with_reducible refine zAc ?_
  refine zAd rfl trivial (.inl ?_)
  congr 3
  exact zKU fun k hk => hinv k (by omega)
theorem zZT (f : Nat) (caps : List PV) (l : List Pt) (p : Pt → Bool) (h : ∀ i, i < l.length → Contract Tryz.prog f ([.val (.agg [.sl 2 (zLd (l.getD i default).steps), .sl 1 (zBB (l.getD i default).links)])] ++ caps.map fun c => .val (.one c)) { res := .val (bv (p (l.getD i default))) }) :
  Contract Tryz.prog zBx [.val (.one (.sl 2 (zJS l))), .val (.one (.clo f caps))] { res := .val (bv (l.any p)) } := by
 refine mkA zEL (base := 0) (fo rfl) (fun hfit => ?_)
 unfold F0 zCt
 simp (maxSteps := 2000000) only [zAD, List.set_cons_succ, List.set_cons_zero, List.map_cons, List.map_nil, zAC, zAa, ioOf, List.length_cons, List.length_nil, Nat.reduceAdd, Nat.reduceSub, List.replicate, List.cons_append, List.nil_append]
 try simp (maxSteps := 2000000) only [go_sem]
 repeat with_reducible refine zAc ?_
 refine zAh (by repeat' constructor) (zZS f caps l p h) ?_
 try simp (maxSteps := 2000000) only [go_sem]
 repeat with_reducible refine zAc ?_
 refine zAd rfl trivial (.inl ?_)
 congr 3
 rw [← zVy]
theorem zZU (f : Nat) (caps : List PV) (l : List Ts) (p : Ts → Bool) (h : ∀ i, i < l.length → Contract Tryz.prog f ([.val (.agg [bI (l.getD i default).kind, bS (l.getD i default).name, bS (l.getD i default).value, bI (l.getD i default).na, bI (l.getD i default).nb, .sl 2 (zJS (l.getD i default).list)])] ++ caps.map fun c => .val (.one c)) { res := .val (bv (p (l.getD i default))) }) :
  Contract Tryz.prog zBW [.val (.one (.sl 6 (zWb l))), .val (.one (.clo f caps))] { res := .val (iv (zX7 p l)) } := by
 refine mkA zFZ (base := 0) (fo rfl) (fun hfit => ?_)
 unfold F0 zDo
 simp (maxSteps := 2000000) only [zAD, List.set_cons_succ, List.set_cons_zero, List.map_cons, List.map_nil, zAC, zAa, ioOf, List.length_cons, List.length_nil, Nat.reduceAdd, Nat.reduceSub, List.replicate, List.cons_append, List.nil_append]
 try simp (maxSteps := 2000000) only [go_sem]
 repeat with_reducible refine zAc ?_
 have ha := zFh (k := 6) hfit.1
 rw [zBo] at ha
 refine zAm (fun i : Nat => [(8, .pv (iv i)), (4, .un), (5, .un), (9, .un), (16, .un)]) (fun i : Nat => l.length - i) (fun i : Nat => i ≤ l.length ∧ ∀ k, k < i → p (l.getD k default) = false) (0) ?_ ⟨Nat.zero_le _, fun k hk => by omega⟩ ?_
 focus (simp (maxSteps := 2000000) only [go_sem, zAe, zAj, zAt, zAf]; all_goals (repeat' (first | exact trivial | exact zAk (by omega) | exact zAg rfl | exact zAq rfl | exact zAl | exact le_refl _ | refine And.intro ?_ ?_)))
 rintro i ⟨hi, hinv⟩
 try simp (maxSteps := 2000000) only [go_sem]
 repeat with_reducible refine zAc ?_
 refine zAb (by rfl) trivial (fun h2 => ?_) (fun h2 => ?_)
 ·have hil : i < l.length := by simp at h2; omega
  have e1 := zDD l i hil
  rw [zDM] at e1
  have hc := h i hil
  try simp (maxSteps := 2000000) only [go_sem, e1]
  repeat with_reducible refine zAc ?_
  refine zDL (by rfl) trivial (by repeat' constructor) (hc) ?_
  try simp (maxSteps := 2000000) only [go_sem]
  repeat with_reducible refine zAc ?_
  refine zAb (by rfl) trivial (fun h3 => ?_) (fun h3 => ?_)
  ·try simp (maxSteps := 2000000) only [go_sem]
   repeat with_reducible refine zAc ?_
   refine zAd rfl trivial (.inl ?_)
   congr 3
   exact zKV hil h3 hinv
  ·try simp (maxSteps := 2000000) only [go_sem]
   repeat with_reducible refine zAc ?_
   refine ⟨i + 1, by omega, ⟨by omega, fun k hk => ?_⟩, ?_⟩
   ·by_cases e : k = i
    ·rw [e]; exact h3
    ·exact hinv k (by omega)
   ·simp (maxSteps := 2000000) only [go_sem, zAe, zAj, zAt, zAf]
    all_goals (repeat' (first | exact trivial | exact zAk (by omega) | exact zAg rfl | exact zAq rfl | exact zAl | exact le_refl _ | refine And.intro ?_ ?_))
 ·have hil : i = l.length := by simp at h2; omega
  try simp (maxSteps := 2000000) only [go_sem]
  repeat with_reducible refine zAc ?_
  refine zAd rfl trivial (.inl ?_)
  congr 3
  exact zKU fun k hk => hinv k (by omega)
theorem zZV (f : Nat) (caps : List PV) (l : List Ts) (p : Ts → Bool) (h : ∀ i, i < l.length → Contract Tryz.prog f ([.val (.agg [bI (l.getD i default).kind, bS (l.getD i default).name, bS (l.getD i default).value, bI (l.getD i default).na, bI (l.getD i default).nb, .sl 2 (zJS (l.getD i default).list)])] ++ caps.map fun c => .val (.one c)) { res := .val (bv (p (l.getD i default))) }) :
  Contract Tryz.prog zBy [.val (.one (.sl 6 (zWb l))), .val (.one (.clo f caps))] { res := .val (bv (l.any p)) } := by
 refine mkA zEO (base := 0) (fo rfl) (fun hfit => ?_)
 unfold F0 zCu
 simp (maxSteps := 2000000) only [zAD, List.set_cons_succ, List.set_cons_zero, List.map_cons, List.map_nil, zAC, zAa, ioOf, List.length_cons, List.length_nil, Nat.reduceAdd, Nat.reduceSub, List.replicate, List.cons_append, List.nil_append]
 try simp (maxSteps := 2000000) only [go_sem]
 repeat with_reducible refine zAc ?_
 refine zAh (by repeat' constructor) (zZU f caps l p h) ?_
 try simp (maxSteps := 2000000) only [go_sem]
 repeat with_reducible refine zAc ?_
 refine zAd rfl trivial (.inl ?_)
 congr 3
 rw [← zVy]
theorem zZW (f : Nat) (caps : List PV) (l : List (Bys × Bys)) (p : Bys × Bys → Bool) (h : ∀ i, i < l.length → Contract Tryz.prog f ([.val (.agg [bS (l.getD i default).1, bS (l.getD i default).2])] ++ caps.map fun c => .val (.one c)) { res := .val (bv (p (l.getD i default))) }) :
  Contract Tryz.prog zA2 [.val (.one (.sl 2 (yCx l))), .val (.one (.clo f caps))] { res := .val (iv (zX7 p l)) } := by
 refine mkA zCV (base := 0) (fo rfl) (fun hfit => ?_)
 unfold F0 zBZ
 simp (maxSteps := 2000000) only [zAD, List.set_cons_succ, List.set_cons_zero, List.map_cons, List.map_nil, zAC, zAa, ioOf, List.length_cons, List.length_nil, Nat.reduceAdd, Nat.reduceSub, List.replicate, List.cons_append, List.nil_append]
 try simp (maxSteps := 2000000) only [go_sem]
 repeat with_reducible refine zAc ?_
 have ha := zFh (k := 2) hfit.1
 rw [zAw] at ha
 refine zAm (fun i : Nat => [(8, .pv (iv i)), (4, .un), (5, .un), (9, .un), (16, .un)]) (fun i : Nat => l.length - i) (fun i : Nat => i ≤ l.length ∧ ∀ k, k < i → p (l.getD k default) = false) (0) ?_ ⟨Nat.zero_le _, fun k hk => by omega⟩ ?_
 focus (simp (maxSteps := 2000000) only [go_sem, zAe, zAj, zAt, zAf]; all_goals (repeat' (first | exact trivial | exact zAk (by omega) | exact zAg rfl | exact zAq rfl | exact zAl | exact le_refl _ | refine And.intro ?_ ?_)))
 rintro i ⟨hi, hinv⟩
 try simp (maxSteps := 2000000) only [go_sem]
 repeat with_reducible refine zAc ?_
 refine zAb (by rfl) trivial (fun h2 => ?_) (fun h2 => ?_)
 ·have hil : i < l.length := by simp at h2; omega
  have e1 := zEd l i hil
  have hc := h i hil
  try simp (maxSteps := 2000000) only [go_sem, e1]
  repeat with_reducible refine zAc ?_
  refine zDL (by rfl) trivial (by repeat' constructor) (hc) ?_
  try simp (maxSteps := 2000000) only [go_sem]
  repeat with_reducible refine zAc ?_
  refine zAb (by rfl) trivial (fun h3 => ?_) (fun h3 => ?_)
  ·try simp (maxSteps := 2000000) only [go_sem]
   repeat with_reducible refine zAc ?_
   refine zAd rfl trivial (.inl ?_)
   congr 3
   exact zKV hil h3 hinv
  ·try simp (maxSteps := 2000000) only [go_sem]
   repeat with_reducible refine zAc ?_
   refine ⟨i + 1, by omega, ⟨by omega, fun k hk => ?_⟩, ?_⟩
   ·by_cases e : k = i
    ·rw [e]; exact h3
    ·exact hinv k (by omega)
   ·simp (maxSteps := 2000000) only [go_sem, zAe, zAj, zAt, zAf]
    all_goals (repeat' (first | exact trivial | exact zAk (by omega) | exact zAg rfl | exact zAq rfl | exact zAl | exact le_refl _ | refine And.intro ?_ ?_))
 ·have hil : i = l.length := by simp at h2; omega
  try simp (maxSteps := 2000000) only [go_sem]
  repeat with_reducible refine zAc ?_
  refine zAd rfl trivial (.inl ?_)
  congr 3
  exact zKU fun k hk => hinv k (by omega)
theorem zSq (l : List Bys) (s : Bys) : Contract Tryz.prog zCa [.val (.one (.sl 1 (zTB l))), .val (sv s)] { res := .val (iv (zX7 (fun c => decide (c = s)) l)) } := by
 refine mkA zGF (base := 0) (fo rfl) (fun hfit => ?_)
 unfold F0 zDR
 simp (maxSteps := 2000000) only [zAD, List.set_cons_succ, List.set_cons_zero, List.map_cons, List.map_nil, zAC, zAa, ioOf, List.length_cons, List.length_nil, Nat.reduceAdd, Nat.reduceSub, List.replicate, List.cons_append, List.nil_append]
 try simp (maxSteps := 2000000) only [go_sem]
 repeat with_reducible refine zAc ?_
 have ha := zFh (k := 1) hfit.1
 rw [zAy] at ha
 refine zAm (fun i : Nat => [(8, .pv (iv i)), (4, .un), (5, .un), (9, .un), (16, .un)]) (fun i : Nat => l.length - i) (fun i : Nat => i ≤ l.length ∧ ∀ k, k < i → (fun c => decide (c = s)) (l.getD k []) = false) (0) ?_ ⟨Nat.zero_le _, fun k hk => by omega⟩ ?_
 focus (simp (maxSteps := 2000000) only [go_sem, zAe, zAj, zAt, zAf]; all_goals (repeat' (first | exact trivial | exact zAk (by omega) | exact zAg rfl | exact zAq rfl | exact zAl | exact le_refl _ | refine And.intro ?_ ?_)))
 rintro i ⟨hi, hinv⟩
 try simp (maxSteps := 2000000) only [go_sem]
 repeat with_reducible refine zAc ?_
 refine zAb (by rfl) trivial (fun h2 => ?_) (fun h2 => ?_)
 ·have hil : i < l.length := by simp at h2; omega
  have e1 := zHY l i hil
  try simp (maxSteps := 2000000) only [go_sem, e1]
  repeat with_reducible refine zAc ?_
  refine zAb (by rfl) trivial (fun h3 => ?_) (fun h3 => ?_)
  ·try simp (maxSteps := 2000000) only [go_sem]
   repeat with_reducible refine zAc ?_
   refine zAd rfl trivial (.inl ?_)
   congr 3
   have h4 : l.getD i [] = s := (by simpa using h3 : s = l.getD i []).symm
   exact zKV (p := fun c => decide (c = s)) (d := []) hil (decide_eq_true h4) hinv
  ·try simp (maxSteps := 2000000) only [go_sem]
   repeat with_reducible refine zAc ?_
   have h4 : ¬ l.getD i [] = s := fun e => (by simpa using h3 : ¬ s = l.getD i []) e.symm
   refine ⟨i + 1, by omega, ⟨by omega, fun k hk => ?_⟩, ?_⟩
   ·by_cases e : k = i
    ·rw [e]; first | exact h4 | exact decide_eq_false h4
    ·first | exact hinv k (by omega) | exact of_decide_eq_false (hinv k (by omega))
   ·simp (maxSteps := 2000000) only [go_sem, zAe, zAj, zAt, zAf]
    all_goals (repeat' (first | exact trivial | exact zAk (by omega) | exact zAg rfl | exact zAq rfl | exact zAl | exact le_refl _ | refine And.intro ?_ ?_))
 ·have hil : i = l.length := by simp at h2; omega
  try simp (maxSteps := 2000000) only [go_sem]
  repeat with_reducible refine zAc ?_
  refine zAd rfl trivial (.inl ?_)
  congr 3
  exact zKU (d := []) (p := fun c => decide (c = s)) fun k hk => hinv k (by omega)
theorem zF3 (l : List Bys) (s : Bys) : Contract Tryz.prog zBe [.val (.one (.sl 1 (zTB l))), .val (sv s)] { res := .val (bv (l.any fun c => decide (c = s))) } := by
 refine mkA zFm (base := 0) (fo rfl) (fun hfit => ?_)
 unfold F0 zCX
 simp (maxSteps := 2000000) only [zAD, List.set_cons_succ, List.set_cons_zero, List.map_cons, List.map_nil, zAC, zAa, ioOf, List.length_cons, List.length_nil, Nat.reduceAdd, Nat.reduceSub, List.replicate, List.cons_append, List.nil_append]
 try simp (maxSteps := 2000000) only [go_sem]
 repeat with_reducible refine zAc ?_
 refine zAh (by repeat' constructor) (zSq l s) ?_
 try simp (maxSteps := 2000000) only [go_sem]
 repeat with_reducible refine zAc ?_
 refine zAd rfl trivial (.inl ?_)
 congr 3
 rw [← zVy]
end Go.Hx
end

section
set_option maxRecDepth 100000
set_option linter.unusedSimpArgs false
set_option maxHeartbeats 2000000
namespace Go.Hx
open Go.Proofs
variable [Glob]
attribute [local go_sem] zAx zAy zAw zAs ndV zAv zAp zAM zBd zBp zBo zBh
attribute [local go_sem] reduceCtorEq Nat.reduceAdd Nat.reduceEqDiff reduceIte Nat.reduceLeDiff Nat.reduceLT Nat.reduceSub
theorem zZX {l : List (Bys × Bys)} {nm : Bys} (h : zX7 (fun a => decide (a.1 = nm)) l < 0) : zCE l nm = none := by
 unfold zX7 at h
 have h2 : l.any (fun a => decide (a.1 = nm)) = false := by
  cases e : l.any (fun a => decide (a.1 = nm)) with
  | false => rfl
  | true => rw [e] at h; simp at h; omega
 unfold zCE
 have : l.find? (fun a => decide (a.1 = nm)) = none := by
  rw [List.find?_eq_none]
  intro x hx hp
  rw [List.any_eq_false] at h2
  exact h2 x hx hp
 rw [this]; rfl
theorem zZY {l : List (Bys × Bys)} {nm : Bys} (h : ¬ zX7 (fun a => decide (a.1 = nm)) l < 0) : ∃ i : Nat, i < l.length ∧ zX7 (fun a => decide (a.1 = nm)) l = i ∧ zCE l nm = some (l.getD i default).2 := by
 unfold zX7 at h ⊢
 have h2 : l.any (fun a => decide (a.1 = nm)) = true := by
  cases e : l.any (fun a => decide (a.1 = nm)) with
  | true => rfl
  | false => rw [e] at h; simp at h
 rw [if_pos h2]
 have h3 : l.findIdx (fun a => decide (a.1 = nm)) < l.length := List.findIdx_lt_length.2 (by simpa using h2)
 refine ⟨_, h3, rfl, ?_⟩
 unfold zCE
 rw [List.find?_eq_getElem?_findIdx, List.getElem?_eq_getElem h3]
 simp [h3]
theorem zX8 (d : List Nd) : (zX5 d).length = d.length := by simp [zX5]
theorem zX9 (d : List Nd) (n : Nat) (h : n < d.length) : (zX5 d).getD n [] = [bI (plc d n), bI (ofN d n), bI (ahd d n), bI (zCz d n), bI (zD5 d n).length] := by simp [zX5, h]
theorem zIs (a : Bys × Bys) (nm : Bys) : Contract Tryz.prog zBM [.val (.agg [bS a.1, bS a.2]), .val (.one (.fp [bS nm]))] { res := .val (bv (decide (a.1 = nm))) } := by
 refine mkA zHi (base := 0) (fo rfl) (fun hfit => ?_)
 unfold F0 zD6
 simp (maxSteps := 2000000) only [zAD, List.set_cons_succ, List.set_cons_zero, List.map_cons, List.map_nil, zAC, zAa, ioOf, List.length_cons, List.length_nil, Nat.reduceAdd, Nat.reduceSub, List.replicate, List.cons_append, List.nil_append]
 try simp (maxSteps := 2000000) only [go_sem]
 repeat with_reducible refine zAc ?_
 refine zAd rfl trivial (.inl ?_)
 congr 3
 rw [Bool.eq_iff_iff]; simp
theorem zKW (d : List Nd) (n : Nat) (hn : n < d.length) (nm : Bys) : Contract Tryz.prog zCQ [.val (.one (zBh d)), .val (iv n), .val (sv nm)] { res := .tup [sv ((zCE (d.getD n default).att nm).getD []), bv (zCE (d.getD n default).att nm).isSome] } := by
 have hc := zZW zBM [.fp [bS nm]] (d.getD n default).att (fun a => decide (a.1 = nm)) (fun i hi => zIs _ nm)
 have e1 := zA1 d n hn
 obtain ⟨x, hx⟩ : ∃ x, x = d.getD n default := ⟨_, rfl⟩
 rw [← hx] at e1 hc ⊢
 refine mkA zJv (base := 0) (fo rfl) (fun hfit => ?_)
 unfold F0 zFb
 simp (maxSteps := 2000000) only [zAD, List.set_cons_succ, List.set_cons_zero, List.map_cons, List.map_nil, zAC, zAa, ioOf, List.length_cons, List.length_nil, Nat.reduceAdd, Nat.reduceSub, List.replicate, List.cons_append, List.nil_append]
 try simp (maxSteps := 2000000) only [go_sem]
 repeat with_reducible refine zAc ?_
 try simp (maxSteps := 2000000) only [go_sem, e1]
 repeat with_reducible refine zAc ?_
 refine zAh (by repeat' constructor) (hc) ?_
 try simp (maxSteps := 2000000) only [go_sem]
 repeat with_reducible refine zAc ?_
 refine zAb (by rfl) trivial (fun h => ?_) (fun h => ?_)
 ·have h' : zX7 (fun a => decide (a.1 = nm)) x.att < 0 := by simpa using h
  rw [zZX h']
  try simp (maxSteps := 2000000) only [go_sem]
  repeat with_reducible refine zAc ?_
  exact zBl (by simp) ⟨zAL rfl trivial (.inl rfl), zAL rfl trivial (.inl rfl), rfl⟩
 ·have h' : ¬ zX7 (fun a => decide (a.1 = nm)) x.att < 0 := by simpa using h
  obtain ⟨i, hi, h2, h3⟩ := zZY h'
  have e2 := zEd x.att i hi
  rw [h3]
  rw [h2]
  try simp (maxSteps := 2000000) only [go_sem, e1, e2]
  repeat with_reducible refine zAc ?_
  exact zBl (by simp) ⟨zAL rfl trivial (.inl rfl), zAL rfl trivial (.inl rfl), rfl⟩
end Go.Hx
end

section
set_option maxRecDepth 100000
set_option linter.unusedSimpArgs false
set_option linter.unusedSectionVars false
namespace Go.Hx
open Go.Proofs
variable [Glob]
section
variable {d : List Nd} (hd : zCg d d.length = true)
include hd
theorem yDg {k : Nat} (hk : k + 1 < d.length) : zAZ d (k + 1) ∈ C d k := by
 have h := zAS hd hk
 simp only [zWa, yCy, Bool.and_eq_true] at h
 have h2 := h.2
 rw [if_neg (by omega)] at h2
 have h3 : zAZ d (k + 1) ∈ zA5 d (k + 1) (((k + 1 : Nat) : Int) - 1) := by simpa using h2
 rw [show (((k + 1 : Nat) : Int) - 1) = k by omega] at h3
 unfold C
 rw [zEo d.length (k + 1) k (fun j hj => (zA6 hd j (by omega)).2) (by omega) (by omega)]
 exact h3
theorem yGn {k : Nat} (h0 : 0 < k) (hk : k < d.length) : 0 ≤ zAZ d k := by
 obtain ⟨j, rfl⟩ : ∃ j, k = j + 1 := ⟨k - 1, by omega⟩
 exact (yGw hd (by omega) (yDg hd hk)).1
theorem yEu (h : 0 < d.length) : zAZ d 0 = -1 := by
 have := zAS hd h
 simp only [zWa, yCy, Bool.and_eq_true] at this
 simpa using this.2
theorem yBS {n k : Nat} (hk : k + 1 < d.length) (hn : n < k) (h : (n : Int) ∈ C d (zAZ d (k + 1))) : (n : Int) ∈ C d (zAZ d k) := by
 have h1 := yGl hd k (by omega) (yDg hd hk) h
 rw [zIJ hd (by omega)] at h1
 rcases List.mem_cons.1 h1 with e | e
 ·omega
 ·exact e
theorem zYg {n k : Nat} (hk : k < d.length) (h : k ≤ n) : (n : Int) ∉ C d (zAZ d k) := by
 intro hx
 have := zA6 hd k hk
 have := yGw hd (by omega) hx
 omega
theorem zQi {n m : Nat} (hm : m < d.length) (h : (n : Int) ∈ C d (zAZ d m)) : ∀ t k, m = k + t → n < k → (n : Int) ∈ C d (zAZ d k)
 | 0, k, e, _ => by rw [Nat.add_zero] at e; rw [← e]; exact h
 | t + 1, k, e, hk => yBS hd (by omega) hk (zQi hm h t (k + 1) (by omega) (by omega))
theorem zDS (n k : Nat) : zAX d n (k + 1) = zAX d n k + (if (n : Int) ∈ C d (zAZ d k) then 1 else 0) := by
 rw [zHb]
 by_cases h : (n : Int) ∈ C d (zAZ d k)
 ·rw [if_pos h, if_pos (by simpa [C] using h)]
 ·rw [if_neg h, if_neg (by simpa [C] using h)]
theorem zJD {n : Nat} : ∀ k, k ≤ n + 1 → k ≤ d.length → zAX d n k = 0
 | 0, _, _ => zX6 d n
 | k + 1, h, hk => by rw [zDS hd, zJD k (by omega) (by omega), if_neg (zYg hd (by omega) (by omega))]; rfl
theorem zSV {n m : Nat} (hm : m < d.length) (h : ∀ k, n < k → k ≤ m → (n : Int) ∈ C d (zAZ d k)) : ∀ t, n + 1 + t ≤ m + 1 → zAX d n (n + 1 + t) = t
 | 0, _ => zJD hd _ (by omega) (by omega)
 | t + 1, ht => by
  rw [show n + 1 + (t + 1) = (n + 1 + t) + 1 by omega, zDS hd, zSV hm h t (by omega), if_pos (h _ (by omega) (by omega))]
  omega
theorem zQj {n m : Nat} (hm : m < d.length) (hn : n < m) (h : (n : Int) ∉ C d (zAZ d m)) : ∀ t, m + t ≤ d.length → zAX d n (m + t) = zAX d n m
 | 0, _ => rfl
 | t + 1, ht => by
  rw [show m + (t + 1) = (m + t) + 1 by omega, zDS hd, zQj hm hn h t (by omega), if_neg fun hx => h (zQi hd (by omega) hx t m (by omega) hn)]
  omega
theorem zSW (n : Nat) : ∀ t k, zAX d n k ≤ zAX d n (k + t)
 | 0, k => Int.le_refl _
 | t + 1, k => by rw [show k + (t + 1) = (k + t) + 1 by omega, zDS hd]; have := zSW n t k; split <;> omega
theorem zHJ {n : Nat} : ∀ t, n + 1 + t ≤ d.length → zAX d n (n + 1 + t) ≤ t
 | 0, h => by rw [zJD hd _ (by omega) h]; exact Int.le_refl _
 | t + 1, h => by rw [show n + 1 + (t + 1) = (n + 1 + t) + 1 by omega, zDS hd]; have := zHJ (n := n) t (by omega); split <;> omega
theorem zYh {n m : Nat} (hm : m < d.length) : zD3 d n m = true ↔ n < m ∧ (m : Int) ≤ n + zCz d n := by
 have ha : zD3 d n m = true ↔ (n : Int) ∈ C d (zAZ d m) := by unfold zD3 C; simp
 rw [ha]
 constructor
 ·intro h
  have hnm : n < m := Classical.byContradiction fun hx => zYg hd hm (by omega) h
  refine ⟨hnm, ?_⟩
  have h1 := zSV hd hm (fun k hk hkm => zQi hd hm h (m - k) k (by omega) hk) (m - n) (by omega)
  have h2 := zSW hd n (d.length - (n + 1 + (m - n))) (n + 1 + (m - n))
  rw [show n + 1 + (m - n) + (d.length - (n + 1 + (m - n))) = d.length by omega, h1] at h2
  unfold zCz
  omega
 ·rintro ⟨hnm, h⟩
  apply Classical.byContradiction
  intro hx
  have h1 := zQj hd hm hnm hx (d.length - m) (by omega)
  rw [show m + (d.length - m) = d.length by omega] at h1
  have h2 := zHJ hd (n := n) (m - n - 1) (by omega)
  rw [show n + 1 + (m - n - 1) = m by omega] at h2
  unfold zCz at h
  omega
theorem yBT (n : Nat) : 0 ≤ zCz d n ∧ zCz d n ≤ d.length := zEp _
end
theorem yDh {d : List Nd} {n : Nat} (h : 0 < n) : zCh d n = zD5 d (zAZ d n) := by
 unfold zCh; rw [if_neg (by omega)]; rfl
theorem zSX {d : List Nd} {n : Nat} : ∀ t, ∃ r, zAJ d (zAZ d n) (n + 1 + t) = zAJ d (zAZ d n) n ++ (n : Int) :: r ∧ ∀ x ∈ r, (n : Int) < x
 | 0 => ⟨[], by rw [Nat.add_zero, zAQ, if_pos rfl], by simp⟩
 | t + 1 => by
  obtain ⟨r, h1, h2⟩ := zSX t
  rw [show n + 1 + (t + 1) = (n + 1 + t) + 1 by omega, zAQ]
  split
  ·refine ⟨r ++ [((n + 1 + t : Nat) : Int)], by rw [h1]; simp, fun x hx => ?_⟩
   rcases List.mem_append.1 hx with hx | hx
   ·exact h2 x hx
   ·have : x = ((n + 1 + t : Nat) : Int) := by simpa using hx
    omega
  ·exact ⟨r, h1, h2⟩
theorem zH1 {d : List Nd} {u x : Int} : ∀ {k : Nat}, x ∈ zAJ d u k → ∃ m : Nat, x = m ∧ m < k ∧ zAZ d m = u
 | 0, h => by rw [zKS] at h; cases h
 | k + 1, h => by
  rw [zAQ] at h
  split at h
  ·rename_i he
   rcases List.mem_append.1 h with h | h
   ·obtain ⟨m, h1, h2, h3⟩ := zH1 h; exact ⟨m, h1, by omega, h3⟩
   ·exact ⟨k, by simpa using h, by omega, he⟩
  ·obtain ⟨m, h1, h2, h3⟩ := zH1 h; exact ⟨m, h1, by omega, h3⟩
theorem zJE {l r : List Int} {x : Int} (h : x ∉ l) : zAW (l ++ x :: r) x = l.length := by
 unfold zAW
 have h1 : l.findIdx? (fun y => decide (y = x)) = none := by
  rw [List.findIdx?_eq_none_iff]
  intro y hy
  simp only [decide_eq_false_iff_not]
  rintro rfl
  exact h hy
 rw [List.findIdx?_append, h1, List.findIdx?_cons]
 simp
theorem zQk {d : List Nd} {u : Int} {n : Nat} : (n : Int) ∉ zAJ d u n := by
 intro h
 obtain ⟨m, h1, h2, _⟩ := zH1 h
 omega
section
variable {d : List Nd} (hd : zCg d d.length = true)
include hd
theorem zYi {n : Nat} (hn : n < d.length) (h0 : 0 < n) : ∃ r, zCh d n = zAJ d (zAZ d n) n ++ (n : Int) :: r ∧ ∀ x ∈ r, (n : Int) < x := by
 obtain ⟨r, h1, h2⟩ := zSX (d := d) (n := n) (d.length - (n + 1))
 rw [show n + 1 + (d.length - (n + 1)) = d.length by omega] at h1
 exact ⟨r, by rw [yDh h0]; exact h1, h2⟩
theorem yDi {n : Nat} (hn : n < d.length) : plc d n = zAW (zCh d n) n + 1 := by
 unfold plc
 by_cases h0 : n = 0
 ·subst h0
  have : zCh d 0 = [0] := rfl
  rw [this, zKS]; rfl
 ·obtain ⟨r, h1, _⟩ := zYi hd hn (by omega)
  rw [h1, zJE zQk]
theorem yGo {n : Nat} (hn : n < d.length) : ofN d n = (zCh d n).length := by
 unfold ofN
 by_cases h0 : n = 0
 ·subst h0
  rw [yEu hd (by omega)]; rfl
 ·rw [if_pos (yGn hd (by omega) hn), yDh (by omega)]
theorem yDj {n : Nat} : yBb d n = [] ↔ (zD5 d n).length = 0 := by
 unfold yBb zD5 zAJ
 rw [List.length_map, List.length_eq_zero_iff]
end
end Go.Hx
end

section
set_option maxRecDepth 100000
set_option linter.unusedSimpArgs false
namespace Go.Hx
open Go.Proofs
variable [Glob]
attribute [local go_sem] zAx zAy zAw zAs ndV zAv
attribute [local go_sem] reduceCtorEq Nat.reduceAdd Nat.reduceEqDiff reduceIte Nat.reduceLeDiff Nat.reduceLT Nat.reduceSub
theorem zHL (s : Bys) : Contract Tryz.prog zEg [.val (sv s)] { res := .val (sv s) } := by
 refine mkA zT1 (base := 0) (fo rfl) (fun hfit => ?_)
 unfold F0 zMF
 simp (maxSteps := 2000000) only [zAD, List.set_cons_succ, List.set_cons_zero, List.map_cons, List.map_nil, zAC, zAa, ioOf, List.length_cons, List.length_nil, Nat.reduceAdd, Nat.reduceSub, List.replicate, List.cons_append, List.nil_append]
 try simp (maxSteps := 2000000) only [go_sem]
 repeat with_reducible refine zAc ?_
 try simp (maxSteps := 2000000) only [go_sem]
 repeat with_reducible refine zAc ?_
 refine zAd rfl trivial (.inl ?_)
 congr 3
theorem zHM (a b : Bys) : Contract Tryz.prog zEh [.val (.agg [bS a, bS b])] { res := .val (sv a) } := by
 refine mkA zT4 (base := 0) (fo rfl) (fun hfit => ?_)
 unfold F0 zMG
 simp (maxSteps := 2000000) only [zAD, List.set_cons_succ, List.set_cons_zero, List.map_cons, List.map_nil, zAC, zAa, ioOf, List.length_cons, List.length_nil, Nat.reduceAdd, Nat.reduceSub, List.replicate, List.cons_append, List.nil_append]
 try simp (maxSteps := 2000000) only [go_sem]
 repeat with_reducible refine zAc ?_
 try simp (maxSteps := 2000000) only [go_sem]
 repeat with_reducible refine zAc ?_
 refine zAd rfl trivial (.inl ?_)
 congr 3
theorem zYn (a b : Bys) : Contract Tryz.prog zDd [.val (.agg [bS a, bS b])] { res := .val (bv (!zCf b)) } := by
 refine mkA zT7 (base := 0) (fo rfl) (fun hfit => ?_)
 unfold F0 zMH
 simp (maxSteps := 2000000) only [zAD, List.set_cons_succ, List.set_cons_zero, List.map_cons, List.map_nil, zAC, zAa, ioOf, List.length_cons, List.length_nil, Nat.reduceAdd, Nat.reduceSub, List.replicate, List.cons_append, List.nil_append]
 try simp (maxSteps := 2000000) only [go_sem]
 repeat with_reducible refine zAc ?_
 refine zAh (by repeat' constructor) (zP9 _) ?_
 try simp (maxSteps := 2000000) only [go_sem]
 repeat with_reducible refine zAc ?_
 try simp (maxSteps := 2000000) only [go_sem]
 repeat with_reducible refine zAc ?_
 refine zAd rfl trivial (.inl ?_)
 congr 3
theorem yEx {l : List Bys} {i : Nat} : okC l (i + 1) = (okC l i && cOk l i) := zCD
theorem zSZ : ∀ {x y : Bys}, Op.bytesLess x y = true → Op.bytesLess y x = false
 | [], _, h => by rename_i y; cases y <;> rfl
 | a :: x, [], h => by simp [Op.bytesLess] at h
 | a :: x, b :: y, h => by
  simp only [Op.bytesLess, Bool.or_eq_true, Bool.and_eq_true, decide_eq_true_eq, beq_iff_eq] at h
  simp only [Op.bytesLess, Bool.or_eq_false_iff, Bool.and_eq_false_iff, decide_eq_false_iff_not, beq_eq_false_iff_ne]
  rcases h with h | ⟨rfl, h⟩
  ·exact ⟨UInt8.lt_asymm h, .inl (fun e => by subst e; exact UInt8.lt_irrefl _ h)⟩
  ·exact ⟨UInt8.lt_irrefl _, .inr (zSZ h)⟩
theorem zS0 : ∀ {x y : Bys}, Op.bytesLess x y = false → x ≠ y → Op.bytesLess y x = true
 | [], [], _, h => (h rfl).elim
 | [], b :: y, h, _ => by simp [Op.bytesLess] at h
 | a :: x, [], _, _ => rfl
 | a :: x, b :: y, h, hn => by
  simp only [Op.bytesLess, Bool.or_eq_false_iff, Bool.and_eq_false_iff, decide_eq_false_iff_not, beq_eq_false_iff_ne] at h
  simp only [Op.bytesLess, Bool.or_eq_true, Bool.and_eq_true, decide_eq_true_eq, beq_iff_eq]
  obtain ⟨h1, h2⟩ := h
  by_cases e : a = b
  ·subst e
   refine .inr ⟨rfl, zS0 (h2.resolve_left (fun h => h rfl)) (fun e => hn (by rw [e]))⟩
  ·refine .inl ?_
   have h3 : b ≤ a := UInt8.not_lt.1 h1
   exact UInt8.lt_of_le_of_ne h3 (Ne.symm e)
theorem zS1 {x y : Bys} : (Op.bytesLess x y || x == y) = !Op.bytesLess y x := by
 cases h : Op.bytesLess y x with
 | true =>
  have h1 := zSZ h
  have : ¬ x = y := fun e => by subst e; rw [h1] at h; cases h
  simp [h1, this]
 | false =>
  by_cases e : x = y
  ·subst e; simp
  ·simp [zS0 h (Ne.symm e)]
theorem zK5 (l : List Bys) : Contract Tryz.prog zCO [.val (.one (.sl 1 (zTB l))), .val (.one (.clo zEg []))] { res := .val (bv (okC l l.length)) } := by
 refine mkA zI0 (base := 0) (fo rfl) (fun hfit => ?_)
 unfold F0 zE6
 simp (maxSteps := 2000000) only [zAD, List.set_cons_succ, List.set_cons_zero, List.map_cons, List.map_nil, zAC, zAa, ioOf, List.length_cons, List.length_nil, Nat.reduceAdd, Nat.reduceSub, List.replicate, List.cons_append, List.nil_append]
 try simp (maxSteps := 2000000) only [go_sem]
 repeat with_reducible refine zAc ?_
 have hm := zFh (k := 1) hfit.1
 rw [zAy] at hm
 refine zAm (fun i : Nat => [(5, .pv (sv (if i = 0 then [] else l.getD (i - 1) []))), (7, .un), (10, .pv (iv i)), (11, .un), (25, .un)]) (fun i : Nat => l.length - i) (fun i : Nat => i ≤ l.length ∧ okC l i = true) (0) ?_ ⟨Nat.zero_le _, rfl⟩ ?_
 focus (simp (maxSteps := 2000000) only [go_sem, zAe, zAj, zAt, zAf]; all_goals (repeat' (first | exact trivial | exact zAk (by omega) | exact zAg rfl | exact zAq rfl | exact zAl | exact le_refl _ | refine And.intro ?_ ?_)))
 intro i ⟨hi, hok⟩
 try simp (maxSteps := 2000000) only [go_sem]
 repeat with_reducible refine zAc ?_
 refine zAb (by rfl) trivial (fun h => ?_) (fun h => ?_)
 ·have hlt : i < l.length := by simpa using h
  try simp (maxSteps := 2000000) only [go_sem, zHY _ _ hlt]
  repeat with_reducible refine zAc ?_
  refine zDL (by rfl) trivial (by repeat' constructor) (zHL _) ?_
  try simp (maxSteps := 2000000) only [go_sem]
  repeat with_reducible refine zAc ?_
  refine zAh (by repeat' constructor) (zEq _) ?_
  try simp (maxSteps := 2000000) only [go_sem]
  repeat with_reducible refine zAc ?_
  refine zOA (by simp (maxSteps := 2000000) only [go_sem]; rfl) (by rfl) (by first | exact fun _ => trivial | exact fun h => h) (by intro h; repeat' (first | exact trivial | exact h | refine And.intro ?_ ?_)) (fun _ => zHL _) ?_
  try simp (maxSteps := 2000000) only [go_sem]
  repeat with_reducible refine zAc ?_
  rw [zS1]
  refine zAb (by rfl) trivial (fun h2 => ?_) (fun h2 => ?_)
  ·try simp (maxSteps := 2000000) only [go_sem]
   repeat with_reducible refine zAc ?_
   refine zAd rfl trivial (.inl ?_)
   congr 3
   cases hn : okC l l.length with
   | false => rfl
   | true =>
    exfalso
    have h4 := zAS hn hlt
    simp only [cOk, Bool.and_eq_true, Bool.or_eq_true, decide_eq_true_eq] at h4
    rw [h4.1] at h2
    by_cases h0 : i = 0
    ·subst h0
     cases hx : l.getD 0 [] with
     | nil => rw [hx] at h4; simp [zBC] at h4
     | cons a r => rw [hx] at h2; simp [Op.bytesLess] at h2
    ·rw [if_neg h0, h4.2.resolve_left h0] at h2
     simp at h2
  ·try simp (maxSteps := 2000000) only [go_sem]
   repeat with_reducible refine zAc ?_
   refine zDL (by rfl) trivial (by repeat' constructor) (zHL _) ?_
   try simp (maxSteps := 2000000) only [go_sem]
   repeat with_reducible refine zAc ?_
   refine ⟨i + 1, by omega, ⟨hlt, ?_⟩, ?_⟩
   ·rw [yEx, hok]
    simp only [Bool.true_and, cOk]
    cases hn : zBC (l.getD i []) with
    | false => rw [hn] at h2; simp at h2
    | true =>
     rw [hn] at h2
     by_cases h0 : i = 0
     ·simp [h0]
     ·rw [if_neg h0] at h2
      simp at h2
      simp [h0, h2]
   ·simp (maxSteps := 2000000) only [go_sem, zAe, zAj, zAt, zAf]
    all_goals (repeat' (first | exact trivial | exact zAk (by omega) | exact zAg rfl | exact zAq rfl | exact zAl | exact le_refl _ | refine And.intro ?_ ?_))
 ·try simp (maxSteps := 2000000) only [go_sem]
  repeat with_reducible refine zAc ?_
  refine zAd rfl trivial (.inl ?_)
  congr 3
  have : i = l.length := by simp at h; omega
  rw [← this]; exact hok
def rOk (l : List (Bys × Bys)) (k : Nat) : Bool := zBC (l.getD k default).1 && (decide (k = 0) || Op.bytesLess (l.getD (k - 1) default).1 (l.getD k default).1)
def zYo (l : List (Bys × Bys)) (i : Nat) : Bool := (List.range i).all (rOk l)
abbrev yGs (l : List (Bys × Bys)) : Bool := zYo l l.length
theorem zZ5 {l : List (Bys × Bys)} {i : Nat} : zYo l (i + 1) = (zYo l i && rOk l i) := zCD
theorem zNV (l : List (Bys × Bys)) : Contract Tryz.prog zCj [.val (.one (.sl 2 (yCx l))), .val (.one (.clo zEh []))] { res := .val (bv (yGs l)) } := by
 refine mkA zG6 (base := 0) (fo rfl) (fun hfit => ?_)
 unfold F0 zD4
 simp (maxSteps := 2000000) only [zAD, List.set_cons_succ, List.set_cons_zero, List.map_cons, List.map_nil, zAC, zAa, ioOf, List.length_cons, List.length_nil, Nat.reduceAdd, Nat.reduceSub, List.replicate, List.cons_append, List.nil_append]
 try simp (maxSteps := 2000000) only [go_sem]
 repeat with_reducible refine zAc ?_
 have hm := zFh (k := 2) hfit.1
 rw [zAw] at hm
 refine zAm (fun i : Nat => [(5, .pv (sv (if i = 0 then [] else (l.getD (i - 1) default).1))), (7, .un), (30, .un), (31, .un), (10, .pv (iv i)), (11, .un), (25, .un)]) (fun i : Nat => l.length - i) (fun i : Nat => i ≤ l.length ∧ zYo l i = true) (0) ?_ ⟨Nat.zero_le _, rfl⟩ ?_
 focus (simp (maxSteps := 2000000) only [go_sem, zAe, zAj, zAt, zAf]; all_goals (repeat' (first | exact trivial | exact zAk (by omega) | exact zAg rfl | exact zAq rfl | exact zAl | exact le_refl _ | refine And.intro ?_ ?_)))
 intro i ⟨hi, hok⟩
 try simp (maxSteps := 2000000) only [go_sem]
 repeat with_reducible refine zAc ?_
 refine zAb (by rfl) trivial (fun h => ?_) (fun h => ?_)
 ·have hlt : i < l.length := by simpa using h
  try simp (maxSteps := 2000000) only [go_sem, zEd _ _ hlt]
  repeat with_reducible refine zAc ?_
  refine zDL (by rfl) trivial (by repeat' constructor) (zHM _ _) ?_
  try simp (maxSteps := 2000000) only [go_sem]
  repeat with_reducible refine zAc ?_
  refine zAh (by repeat' constructor) (zEq _) ?_
  try simp (maxSteps := 2000000) only [go_sem]
  repeat with_reducible refine zAc ?_
  refine zOA (by simp (maxSteps := 2000000) only [go_sem]; rfl) (by rfl) (by first | exact fun _ => trivial | exact fun h => h) (by intro h; repeat' (first | exact trivial | exact h | refine And.intro ?_ ?_)) (fun _ => zHM _ _) ?_
  try simp (maxSteps := 2000000) only [go_sem]
  repeat with_reducible refine zAc ?_
  rw [zS1]
  refine zAb (by rfl) trivial (fun h2 => ?_) (fun h2 => ?_)
  ·try simp (maxSteps := 2000000) only [go_sem]
   repeat with_reducible refine zAc ?_
   refine zAd rfl trivial (.inl ?_)
   congr 3
   cases hn : yGs l with
   | false => rfl
   | true =>
    exfalso
    have h4 := zAS hn hlt
    simp only [rOk, Bool.and_eq_true, Bool.or_eq_true, decide_eq_true_eq] at h4
    rw [h4.1] at h2
    by_cases h0 : i = 0
    ·subst h0
     cases hx : (l.getD 0 default).1 with
     | nil => rw [hx] at h4; simp [zBC] at h4
     | cons a r => rw [hx] at h2; simp [Op.bytesLess] at h2
    ·rw [if_neg h0, h4.2.resolve_left h0] at h2
     simp at h2
  ·try simp (maxSteps := 2000000) only [go_sem]
   repeat with_reducible refine zAc ?_
   refine zDL (by rfl) trivial (by repeat' constructor) (zHM _ _) ?_
   try simp (maxSteps := 2000000) only [go_sem]
   repeat with_reducible refine zAc ?_
   refine ⟨i + 1, by omega, ⟨hlt, ?_⟩, ?_⟩
   ·rw [zZ5, hok]
    simp only [Bool.true_and, rOk]
    cases hn : zBC ((l.getD i default).1) with
    | false => rw [hn] at h2; simp at h2
    | true =>
     rw [hn] at h2
     by_cases h0 : i = 0
     ·simp [h0]
     ·rw [if_neg h0] at h2
      simp at h2
      simp [h0, h2]
   ·simp (maxSteps := 2000000) only [go_sem, zAe, zAj, zAt, zAf]
    all_goals (repeat' (first | exact trivial | exact zAk (by omega) | exact zAg rfl | exact zAq rfl | exact zAl | exact le_refl _ | refine And.intro ?_ ?_))
 ·try simp (maxSteps := 2000000) only [go_sem]
  repeat with_reducible refine zAc ?_
  refine zAd rfl trivial (.inl ?_)
  congr 3
  have : i = l.length := by simp at h; omega
  subst this; exact hok
def zSu (l : List (Bys × Bys)) (i : Nat) : Bool := !zCf (l.getD i default).2
def zYp (l : List (Bys × Bys)) : Int := match (List.range l.length).find? (zSu l) with | some i => i | none => -1
theorem zGj (l : List (Bys × Bys)) : Contract Tryz.prog zA2 [.val (.one (.sl 2 (yCx l))), .val (.one (.clo zDd []))] { res := .val (iv (zYp l)) } := by
 refine mkA zCV (base := 0) (fo rfl) (fun hfit => ?_)
 unfold F0 zBZ
 simp (maxSteps := 2000000) only [zAD, List.set_cons_succ, List.set_cons_zero, List.map_cons, List.map_nil, zAC, zAa, ioOf, List.length_cons, List.length_nil, Nat.reduceAdd, Nat.reduceSub, List.replicate, List.cons_append, List.nil_append]
 try simp (maxSteps := 2000000) only [go_sem]
 repeat with_reducible refine zAc ?_
 have hm := zFh (k := 2) hfit.1
 rw [zAw] at hm
 refine zAm (fun i : Nat => [(5, .un), (8, .pv (iv i)), (9, .un), (16, .un)]) (fun i : Nat => l.length - i) (fun i : Nat => i ≤ l.length ∧ ∀ k, k < i → zSu l k = false) (0) ?_ ⟨Nat.zero_le _, fun k hk => by omega⟩ ?_
 focus (simp (maxSteps := 2000000) only [go_sem, zAe, zAj, zAt, zAf]; all_goals (repeat' (first | exact trivial | exact zAk (by omega) | exact zAg rfl | exact zAq rfl | exact zAl | exact le_refl _ | refine And.intro ?_ ?_)))
 intro i ⟨hi, hok⟩
 try simp (maxSteps := 2000000) only [go_sem]
 repeat with_reducible refine zAc ?_
 refine zAb (by rfl) trivial (fun h => ?_) (fun h => ?_)
 ·have hlt : i < l.length := by simpa using h
  try simp (maxSteps := 2000000) only [go_sem, zEd _ _ hlt]
  repeat with_reducible refine zAc ?_
  refine zDL (by rfl) trivial (by repeat' constructor) (zYn _ _) ?_
  try simp (maxSteps := 2000000) only [go_sem]
  repeat with_reducible refine zAc ?_
  refine zAb (by rfl) trivial (fun h2 => ?_) (fun h2 => ?_)
  ·try simp (maxSteps := 2000000) only [go_sem]
   repeat with_reducible refine zAc ?_
   refine zAd rfl trivial (.inl ?_)
   congr 3
   have h3 : (List.range l.length).find? (zSu l) = some i := List.find?_range_eq_some.2 ⟨h2, List.mem_range.2 hlt, fun j hj => by rw [hok j hj]; rfl⟩
   rw [zYp, h3]
  ·try simp (maxSteps := 2000000) only [go_sem]
   repeat with_reducible refine zAc ?_
   refine ⟨i + 1, by omega, ⟨hlt, fun k hk => ?_⟩, ?_⟩
   ·by_cases e : k = i
    ·rw [e]; exact h2
    ·exact hok k (by omega)
   ·simp (maxSteps := 2000000) only [go_sem, zAe, zAj, zAt, zAf]
    all_goals (repeat' (first | exact trivial | exact zAk (by omega) | exact zAg rfl | exact zAq rfl | exact zAl | exact le_refl _ | refine And.intro ?_ ?_))
 ·try simp (maxSteps := 2000000) only [go_sem]
  repeat with_reducible refine zAc ?_
  refine zAd rfl trivial (.inl ?_)
  congr 3
  have : i = l.length := by simp at h; omega
  have h3 : (List.range l.length).find? (zSu l) = none := List.find?_eq_none.2 fun x hx => by rw [hok x (by rw [this]; exact List.mem_range.1 hx)]; simp
  rw [zYp, h3]
def zYq (l : List (Bys × Bys)) : Bool := (List.range l.length).any (zSu l)
theorem yBX (l : List (Bys × Bys)) : decide (0 ≤ zYp l) = zYq l := by
 unfold zYp zYq
 cases h : (List.range l.length).find? (zSu l) with
 | none =>
  have := List.find?_eq_none.1 h
  have h2 : (List.range l.length).any (zSu l) = false := by
   rw [List.any_eq_false]; exact this
  rw [h2]; rfl
 | some i =>
  have := List.find?_range_eq_some.1 h
  have h2 : (List.range l.length).any (zSu l) = true := List.any_eq_true.2 ⟨i, this.2.1, this.1⟩
  rw [h2]
  simp
theorem zEV (l : List (Bys × Bys)) : Contract Tryz.prog zBw [.val (.one (.sl 2 (yCx l))), .val (.one (.clo zDd []))] { res := .val (bv (zYq l)) } := by
 refine mkA zEC (base := 0) (fo rfl) (fun hfit => ?_)
 unfold F0 zCs
 simp (maxSteps := 2000000) only [zAD, List.set_cons_succ, List.set_cons_zero, List.map_cons, List.map_nil, zAC, zAa, ioOf, List.length_cons, List.length_nil, Nat.reduceAdd, Nat.reduceSub, List.replicate, List.cons_append, List.nil_append]
 try simp (maxSteps := 2000000) only [go_sem]
 repeat with_reducible refine zAc ?_
 refine zAh (by repeat' constructor) (zGj _) ?_
 try simp (maxSteps := 2000000) only [go_sem]
 repeat with_reducible refine zAc ?_
 try simp (maxSteps := 2000000) only [go_sem]
 repeat with_reducible refine zAc ?_
 refine zAd rfl trivial (.inl ?_)
 congr 3
 rw [← yBX]
theorem yBY (l : List (Bys × Bys)) : okA l l.length = (yGs l && !zYq l) := by
 rw [Bool.eq_iff_iff]
 simp only [okA, zYo, zYq, Bool.and_eq_true, Bool.not_eq_true', List.all_eq_true, List.any_eq_false, List.mem_range]
 constructor
 ·intro h
  refine ⟨fun k hk => ?_, fun k hk => ?_⟩
  ·have := h k hk
   simp only [aOk, rOk, Bool.and_eq_true] at this ⊢
   exact ⟨this.1.1, this.2⟩
  ·have := h k hk
   simp only [aOk, zSu, Bool.and_eq_true] at this ⊢
   rw [this.1.2]; simp
 ·intro ⟨h1, h2⟩ k hk
  have h3 := h1 k hk
  have h4 := h2 k hk
  simp only [aOk, rOk, zSu, Bool.and_eq_true, Bool.not_eq_true, Bool.not_eq_false'] at h3 h4 ⊢
  exact ⟨⟨h3.1, h4⟩, h3.2⟩
theorem zS2 (x : Nd) : Contract Tryz.prog zIP [.val (.agg (ndV x))] { res := .val (bv (zBG x)) } := by
 unfold ndV
 refine mkA zYT (base := 0) (fo rfl) (fun hfit => ?_)
 unfold F0 zSJ
 simp (maxSteps := 2000000) only [zAD, List.set_cons_succ, List.set_cons_zero, List.map_cons, List.map_nil, zAC, zAa, ioOf, List.length_cons, List.length_nil, Nat.reduceAdd, Nat.reduceSub, List.replicate, List.cons_append, List.nil_append]
 try simp (maxSteps := 2000000) only [go_sem]
 repeat with_reducible refine zAc ?_
 refine zAh (by repeat' constructor) (zEq _) ?_
 try simp (maxSteps := 2000000) only [go_sem]
 repeat with_reducible refine zAc ?_
 apply zAo (h2 := fun _ => zEq _)
 ·(simp (maxSteps := 2000000) only [go_sem]; rfl)
 ·intro h; repeat' (first | exact trivial | exact h | refine And.intro ?_ ?_)
 try simp (maxSteps := 2000000) only [go_sem]
 repeat with_reducible refine zAc ?_
 apply zAo (h2 := fun _ => zK5 _)
 ·(simp (maxSteps := 2000000) only [go_sem]; rfl)
 ·intro h; repeat' (first | exact trivial | exact h | refine And.intro ?_ ?_)
 try simp (maxSteps := 2000000) only [go_sem]
 repeat with_reducible refine zAc ?_
 apply zAo (h2 := fun _ => zNV _)
 ·(simp (maxSteps := 2000000) only [go_sem]; rfl)
 ·intro h; repeat' (first | exact trivial | exact h | refine And.intro ?_ ?_)
 try simp (maxSteps := 2000000) only [go_sem]
 repeat with_reducible refine zAc ?_
 apply zAo (h2 := fun _ => zEV _)
 ·(simp (maxSteps := 2000000) only [go_sem]; rfl)
 ·intro h; repeat' (first | exact trivial | exact h | refine And.intro ?_ ?_)
 try simp (maxSteps := 2000000) only [go_sem]
 repeat with_reducible refine zAc ?_
 refine zAd rfl trivial (.inl ?_)
 congr 3
 simp only [zBG, yBY]
 grind
end Go.Hx
end

section
set_option maxRecDepth 100000
set_option linter.unusedSimpArgs false
namespace Go.Hx
open Go.Proofs
variable [Glob]
attribute [local go_sem] zAx zAy zAw zAs ndV zAv
attribute [local go_sem] reduceCtorEq Nat.reduceAdd Nat.reduceEqDiff reduceIte Nat.reduceLeDiff Nat.reduceLT Nat.reduceSub
def zMb (u : Int) (c : List Int) : List Int := c.dropWhile fun x => decide (x ≠ u)
theorem zQo {u : Int} : ∀ c : List Int, (zMb u c = []) ↔ u ∉ c
 | [] => by simp [zMb]
 | x :: c => by
  simp only [zMb, List.dropWhile_cons]
  by_cases h : x = u
  ·simp [h]
  ·have := zQo (u := u) c
   simp only [zMb] at this
   simp only [ne_eq, decide_not] at this
   simp [h, this, Ne.symm h]
theorem zQp {d : List Nd} {u : Int} : ∀ (f : Nat) (k : Int), (∀ j : Nat, (j : Int) ≤ k → zAZ d j < j) → k < f → u ∈ zA5 d f k → ∀ g : Nat, u < g → zMb u (zA5 d f k) = zA5 d g u
 | 0, k, _, _, hu => by simp [zA5] at hu
 | f + 1, k, h, hf, hu => by
  intro g hg
  have hb := zDz (f + 1) k h _ hu
  simp only [zA5] at hu ⊢
  split at hu
  ·cases hu
  ·rename_i hk
   rw [if_neg hk]
   simp only [zMb, List.dropWhile_cons]
   by_cases e : k = u
   ·subst e
    simp only [ne_eq, not_true_eq_false, decide_false, Bool.false_eq_true, if_false]
    have : k :: zA5 d f (zAZ d k.toNat) = zA5 d (f + 1) k := by simp [zA5, hk]
    rw [this]
    exact zEo _ _ _ h hf hg
   ·simp only [ne_eq, e, not_false_eq_true, decide_true, if_true]
    have h1 := h k.toNat (by omega)
    exact zQp f (zAZ d k.toNat) (fun j hj => h j (by omega)) (by omega) ((List.mem_cons.1 hu).resolve_left (Ne.symm e)) g hg
theorem zS3 (c : List Int) (x : Int) : (zBB ((x :: c).reverse)).getD c.length [] = [bI x] := by
 simp [zBB]
theorem zS4 (c : List Int) (x : Int) : (zBB ((x :: c).reverse)).take c.length = zBB c.reverse := by
 simp [zBB]
theorem yDs : zBB [] = [] := rfl
theorem zYr {d : List Nd} {i : Nat} : yCy d i = ((decide (i ≠ 0) || decide (zAZ d i = -1)) && (decide (i = 0) || !decide (zMb (zAZ d i) (zA5 d i ((i : Int) - 1)) = []))) := by
 unfold yCy
 by_cases h : i = 0
 ·simp [h]
 ·have := zQo (u := zAZ d i) (zA5 d i ((i : Int) - 1))
  simp only [h, if_false, ne_eq, not_false_eq_true, decide_true, Bool.true_or, Bool.true_and, decide_false, Bool.false_or, this]
  simp
theorem zYs {d : List Nd} : ∀ (f : Nat) (k : Int), (zA5 d f k).length ≤ f
 | 0, _ => by simp [zA5]
 | f + 1, k => by
  simp only [zA5]
  split
  ·simp
  ·have := zYs (d := d) f (zAZ d k.toNat)
   simp; omega
theorem yDt (n : Nat) : ((((n + 1 : Nat) : Int)) - 1).toNat = n := by omega
theorem yDu {d : List Nd} {i : Nat} (hl : 1 ≤ d.length ∧ d.length ≤ 64) (hi : i < d.length) (h : zWa d i = false) : zAA d = 1 := by
 have : zCg d d.length = false := by
  cases hd : zCg d d.length with
  | false => rfl
  | true => rw [zAS hd hi] at h; cases h
 simp [zAA, hl, this]
theorem zZ6 (d : List Nd) : Contract Tryz.prog zGU [.val (zCx d)] { res := .val (iv (zAA d)) } := by
 unfold zCx
 refine mkA zWK (base := 0) (fo rfl) (fun hfit => ?_)
 unfold F0 zPb
 simp (maxSteps := 2000000) only [zAD, List.set_cons_succ, List.set_cons_zero, List.map_cons, List.map_nil, zAC, zAa, ioOf, List.length_cons, List.length_nil, Nat.reduceAdd, Nat.reduceSub, List.replicate, List.cons_append, List.nil_append]
 try simp (maxSteps := 2000000) only [go_sem]
 repeat with_reducible refine zAc ?_
 refine zAb (by rfl) trivial (fun h => ?_) (fun h => ?_)
 ·try simp (maxSteps := 2000000) only [go_sem]
  repeat with_reducible refine zAc ?_
  refine zAd rfl trivial (.inl ?_)
  congr 3
  have hl : ¬ (1 ≤ d.length ∧ d.length ≤ 64) := by
   simp at h; omega
  simp [zAA, hl]
 have hl : 1 ≤ d.length ∧ d.length ≤ 64 := by
  simp at h; omega
 try simp (maxSteps := 2000000) only [go_sem]
 repeat with_reducible refine zAc ?_
 refine zAm (fun i : Nat => [(3, .stk zCT 1 (zBB (zA5 d i ((i : Int) - 1)).reverse)), (4, .un), (5, .un), (19, .pv (iv i)), (20, .un), (37, .un), (63, .un), (69, .un), (70, .un), (71, .un), (72, .un), (73, .un)]) (fun i : Nat => d.length - i) (fun i : Nat => i ≤ d.length ∧ zCg d i = true) (0) ?_ ⟨Nat.zero_le _, rfl⟩ ?_
 focus (simp (maxSteps := 2000000) only [go_sem, zAe, zAj, zAt, zAf]; all_goals (repeat' (first | exact trivial | exact zAk (by omega) | exact zAg rfl | exact zAq rfl | exact zAl | exact le_refl _ | refine And.intro ?_ ?_)))
 intro i ⟨hi, hok⟩
 try simp (maxSteps := 2000000) only [go_sem]
 repeat with_reducible refine zAc ?_
 refine zAb (by rfl) trivial (fun h2 => ?_) (fun h2 => ?_)
 ·have hlt : i < d.length := by simpa using h2
  try simp (maxSteps := 2000000) only [go_sem, zA1 _ _ hlt]
  repeat with_reducible refine zAc ?_
  have hcl := zYs (d := d) i ((i : Int) - 1)
  have hx : zAZ d i = (d.getD i default).up := rfl
  refine zAm (fun c : List Int => [(3, .stk zCT 1 (zBB c.reverse)), (37, .un)]) (fun c : List Int => c.length) (fun c : List Int => c.length ≤ i ∧ zMb (zAZ d i) c = zMb (zAZ d i) (zA5 d i ((i : Int) - 1))) ((zA5 d i ((i : Int) - 1))) ?_ ⟨hcl, rfl⟩ ?_
  focus (simp (maxSteps := 2000000) only [go_sem, zAe, zAj, zAt, zAf]; all_goals (repeat' (first | exact trivial | exact zAk (by omega) | exact zAg rfl | exact zAq rfl | exact zAl | exact le_refl _ | refine And.intro ?_ ?_)))
  intro c ⟨hcl, hc⟩
  cases c with
  | nil =>
   have hpop : zMb (zAZ d i) (zA5 d i ((i : Int) - 1)) = [] := by rw [← hc]; rfl
   have hup := zYr (d := d) (i := i)
   rw [hpop] at hup
   try simp (maxSteps := 2000000) only [go_sem, List.reverse_nil, yDs, List.getD_nil, List.headD_nil]
   repeat with_reducible refine zAc ?_
   refine zAb (by rfl) trivial (fun h3 => ?_) (fun h3 => ?_)
   ·simp at h3
   try simp (maxSteps := 2000000) only [go_sem]
   repeat with_reducible refine zAc ?_
   refine zV5 (by repeat' constructor) (zS2 (d.getD i default)) ?_
   try simp (maxSteps := 2000000) only [go_sem]
   repeat with_reducible refine zAc ?_
   refine zAb (by rfl) trivial (fun h4 => ?_) (fun h4 => ?_)
   ·try simp (maxSteps := 2000000) only [go_sem]
    repeat with_reducible refine zAc ?_
    refine zAd rfl trivial (.inl ?_)
    congr 3
    refine yDu hl hlt ?_
    rw [zWa, hup]
    grind
   ·try simp (maxSteps := 2000000) only [go_sem]
    repeat with_reducible refine zAc ?_
    have h5 : i = 0 := by grind
    have h6 : zWa d i = true := by
     rw [zWa, hup]
     grind
    refine ⟨i + 1, by omega, ⟨by omega, by rw [zLZ, hok, h6]; rfl⟩, ?_⟩
    simp (maxSteps := 2000000) only [go_sem, zAe, zAj, zAt, zAf]
    all_goals (repeat' (first | exact trivial | exact zAk (by omega) | exact zAg rfl | exact zAq rfl | exact zAl | exact le_refl _ | refine And.intro ?_ ?_))
    refine zAq ?_
    subst h5
    have : zAZ d 0 = -1 := by grind
    simp [zA5, this, zBB]
  | cons x c =>
   have hlen : c.length + 1 ≤ 64 := by simp at hcl; omega
   try simp (maxSteps := 2000000) only [go_sem, List.length_reverse, yDt, zS3, zS4]
   repeat with_reducible refine zAc ?_
   refine zAb (by rfl) trivial (fun h3 => ?_) (fun h3 => ?_)
   ·try simp (maxSteps := 2000000) only [go_sem, List.length_reverse, yDt, zS3, zS4]
    repeat with_reducible refine zAc ?_
    refine ⟨c, by omega, ⟨by simp at hcl; omega, ?_⟩, ?_⟩
    ·rw [← hc]
     simp only [zMb, List.dropWhile_cons]
     grind
    ·simp (maxSteps := 2000000) only [go_sem, zAe, zAj, zAt, zAf]
     all_goals (repeat' (first | exact trivial | exact zAk (by omega) | exact zAg rfl | exact zAq rfl | exact zAl | exact le_refl _ | refine And.intro ?_ ?_))
   have hxu : x = zAZ d i := by grind
   have hpop : zMb (zAZ d i) (zA5 d i ((i : Int) - 1)) = x :: c := by rw [← hc]; simp [zMb, hxu]
   have hup := zYr (d := d) (i := i)
   rw [hpop] at hup
   try simp (maxSteps := 2000000) only [go_sem, List.length_reverse]
   repeat with_reducible refine zAc ?_
   refine zV5 (by repeat' constructor) (zS2 (d.getD i default)) ?_
   try simp (maxSteps := 2000000) only [go_sem]
   repeat with_reducible refine zAc ?_
   refine zAb (by rfl) trivial (fun h4 => ?_) (fun h4 => ?_)
   ·try simp (maxSteps := 2000000) only [go_sem]
    repeat with_reducible refine zAc ?_
    refine zAd rfl trivial (.inl ?_)
    congr 3
    refine yDu hl hlt ?_
    rw [zWa, hup]
    grind
   ·try simp (maxSteps := 2000000) only [go_sem]
    repeat with_reducible refine zAc ?_
    have hmem : zAZ d i ∈ zA5 d i ((i : Int) - 1) := by
     have := zQo (u := zAZ d i) (zA5 d i ((i : Int) - 1))
     rw [hpop] at this
     simpa using this
    have h5 : i ≠ 0 := by intro h0; subst h0; simp [zA5] at hmem
    have h6 : zWa d i = true := by
     rw [zWa, hup]
     grind
    refine ⟨i + 1, by omega, ⟨by omega, by rw [zLZ, hok, h6]; rfl⟩, ?_⟩
    simp (maxSteps := 2000000) only [go_sem, zAe, zAj, zAt, zAf]
    all_goals (repeat' (first | exact trivial | exact zAk (by omega) | exact zAg rfl | exact zAq rfl | exact zAl | exact le_refl _ | refine And.intro ?_ ?_))
    refine zAq ?_
    have hups : ∀ j : Nat, (j : Int) ≤ (i : Int) - 1 → zAZ d j < j := fun j hj => (zA6 hok j (by omega)).2
    have hb := zDz i ((i : Int) - 1) hups _ hmem
    have hch := zQp i ((i : Int) - 1) hups (by omega) hmem i (by omega)
    rw [hpop] at hch
    have : zA5 d (i + 1) (((i + 1 : Nat) : Int) - 1) = (i : Int) :: x :: c := by
     rw [show (((i + 1 : Nat) : Int) - 1) = (i : Int) by omega]
     simp only [zA5]
     rw [if_neg (by omega), hch]
     simp
    rw [this]
    simp [zBB]
 ·try simp (maxSteps := 2000000) only [go_sem]
  repeat with_reducible refine zAc ?_
  refine zAd rfl trivial (.inl ?_)
  congr 3
  have hi2 : i = d.length := by simp at h2; omega
  subst hi2
  simp [zAA, hl, hok]
end Go.Hx
end
