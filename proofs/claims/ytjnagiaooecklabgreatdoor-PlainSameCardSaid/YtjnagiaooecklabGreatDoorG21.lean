/-
  Walks of functions of the program over an abstract layer, and the laws that they use: each contract says what the function computes, for every input that its conditions let by. No other condition.
-/
import Derived.Test.YtjnagiaooecklabGreatDoorG18
import Derived.Test.YtjnagiaooecklabGreatDoorG20
import Derived.Test.YtjnagiaooecklabGreatDoorG14
import Derived.Test.YtjnagiaooecklabGreatDoorG10
import Derived.Test.YtjnagiaooecklabGreatDoorG11
import Derived.Test.YtjnagiaooecklabGreatDoorG9
set_option linter.all false
section
set_option maxRecDepth 100000
set_option linter.unusedSimpArgs false
set_option maxHeartbeats 4000000
attribute [local go_sem] Go.Oper.semAt_some
namespace Go.Hx
open Go.Proofs Go.RowKit Go.Shelf
variable [Glob]
attribute [local go_sem] zAu zAr zAs zAk ndV zAo zAj zBc zAJ zAO zAI zBm
theorem yIy {v : Array Value} (h : v.size = 38) : v = #[v.getD 0 undef, v.getD 1 undef, v.getD 2 undef, v.getD 3 undef, v.getD 4 undef, v.getD 5 undef, v.getD 6 undef, v.getD 7 undef, v.getD 8 undef, v.getD 9 undef, v.getD 10 undef, v.getD 11 undef, v.getD 12 undef, v.getD 13 undef, v.getD 14 undef, v.getD 15 undef, v.getD 16 undef, v.getD 17 undef, v.getD 18 undef, v.getD 19 undef, v.getD 20 undef, v.getD 21 undef, v.getD 22 undef, v.getD 23 undef, v.getD 24 undef, v.getD 25 undef, v.getD 26 undef, v.getD 27 undef, v.getD 28 undef, v.getD 29 undef, v.getD 30 undef, v.getD 31 undef, v.getD 32 undef, v.getD 33 undef, v.getD 34 undef, v.getD 35 undef, v.getD 36 undef, v.getD 37 undef] := by
 refine Array.ext (by simp [h]) fun i h1 h2 => ?_
 have h3 : i < 38 := by omega
 have e : ∀ k, k < 38 → ∀ h : k < v.size, v[k] = v.getD k undef := fun k _ hk => by rw [Array.getD_eq_getD_getElem?, Array.getElem?_eq_getElem hk]; rfl
 rw [e i h3 h1]
 match i, h3, h2 with
 | 0, _, _ => rfl
 | 1, _, _ => rfl
 | 2, _, _ => rfl
 | 3, _, _ => rfl
 | 4, _, _ => rfl
 | 5, _, _ => rfl
 | 6, _, _ => rfl
 | 7, _, _ => rfl
 | 8, _, _ => rfl
 | 9, _, _ => rfl
 | 10, _, _ => rfl
 | 11, _, _ => rfl
 | 12, _, _ => rfl
 | 13, _, _ => rfl
 | 14, _, _ => rfl
 | 15, _, _ => rfl
 | 16, _, _ => rfl
 | 17, _, _ => rfl
 | 18, _, _ => rfl
 | 19, _, _ => rfl
 | 20, _, _ => rfl
 | 21, _, _ => rfl
 | 22, _, _ => rfl
 | 23, _, _ => rfl
 | 24, _, _ => rfl
 | 25, _, _ => rfl
 | 26, _, _ => rfl
 | 27, _, _ => rfl
 | 28, _, _ => rfl
 | 29, _, _ => rfl
 | 30, _, _ => rfl
 | 31, _, _ => rfl
 | 32, _, _ => rfl
 | 33, _, _ => rfl
 | 34, _, _ => rfl
 | 35, _, _ => rfl
 | 36, _, _ => rfl
 | 37, _, _ => rfl
 | k + 38, h, _ => exact absurd h (by omega)
theorem zPr (m : Mem) {β : Type} : Own (fun (_ : β) W => MemOk m W) := fun _ _ _ _ hs hg hr b o u hu => cell_kept (hs b o u hu) hg hr
theorem zVN {m : Mem} {W : World} {b : Nat} (h : MemOk m W) (h8 : ∀ o, m b o = none) (v : Value) : MemOk m (W.setCell ⟨b, 0, none⟩ v) := fun c o u hu => by
 have hne : c ≠ b := by rintro rfl; rw [h8 o] at hu; cases hu
 exact (World.cell?_setCell_other _ _ _ _ (by intro e; cases e; exact hne rfl)).trans (h c o u hu)
theorem yEL (d : List Nd) (hd : zEw d d.length = true) (link : Int) (n : Nat) (hn : n < d.length) (p : Pt) (k : Nat) (hk : k < 1000) (X : Nat → Bool)
  (hX : ∀ x, x < d.length → Contract Tryz.prog zAZ [.val (.one (zBm d)), .val (.agg (ptV p)), .val (iv k), .val (iv x)] { res := .val (bv (X x)) })
  (m : Mem) (w0 w : World) (hm : MemOk m w) (hG : Glob.ok w) (hB0 : Below w0.heap.size w0 w) (v : Array Value) (hs : v.size = 38) (b8 T : Nat) (h8 : w0.heap.size ≤ b8) (hm8 : ∀ o, m b8 o = none) (hc8 : w.heap[b8]? = some (.cells #[.bool false] T (0, 0)))
  (v4 : Rp m (.fp [zBm d]) (v.getD 4 undef)) (v5 : Rp m (.fp (ptV p)) (v.getD 5 undef)) (v6 : Rp m (.fp [bI (k + 1 : Nat)]) (v.getD 6 undef)) (v8 : v.getD 8 undef = .pointer (some ⟨b8, 0, none⟩)) (v30 : Rp m (yA0 d link n) (v.getD 30 undef))
  (R : Ending → World → Prop) (fn : Func) (hfr : fn.results = #[.cell 8 4]) (hR : ∀ W, MemOk m W → Below w0.heap.size w0 W → R (.returned (.bool ((zZS d link n).any X))) W) :
  (cdR (cdL (cdR (cdR (cdR (Tryz.f116.body.getD .skip)))))).wpIn Fence.wide 3 Tryz.prog (Exit.then (fun a w => (cdR (cdR (cdR (cdR (Tryz.f116.body.getD .skip))))).wpIn Fence.wide 3 Tryz.prog (bodyPostM Fence.wide 3 Tryz.prog fn R) a w) (bodyPostM Fence.wide 3 Tryz.prog fn R)) { tmps := v, defers := [] } w := by
 have hv := yIy hs
 obtain ⟨x0, e0⟩ : ∃ x, x = v.getD 0 undef := ⟨_, rfl⟩
 obtain ⟨x1, e1⟩ : ∃ x, x = v.getD 1 undef := ⟨_, rfl⟩
 obtain ⟨x2, e2⟩ : ∃ x, x = v.getD 2 undef := ⟨_, rfl⟩
 obtain ⟨x3, e3⟩ : ∃ x, x = v.getD 3 undef := ⟨_, rfl⟩
 obtain ⟨x4, e4⟩ : ∃ x, x = v.getD 4 undef := ⟨_, rfl⟩
 obtain ⟨x5, e5⟩ : ∃ x, x = v.getD 5 undef := ⟨_, rfl⟩
 obtain ⟨x6, e6⟩ : ∃ x, x = v.getD 6 undef := ⟨_, rfl⟩
 obtain ⟨x7, e7⟩ : ∃ x, x = v.getD 7 undef := ⟨_, rfl⟩
 obtain ⟨x8, e8⟩ : ∃ x, x = v.getD 8 undef := ⟨_, rfl⟩
 obtain ⟨x9, e9⟩ : ∃ x, x = v.getD 9 undef := ⟨_, rfl⟩
 obtain ⟨x10, e10⟩ : ∃ x, x = v.getD 10 undef := ⟨_, rfl⟩
 obtain ⟨x11, e11⟩ : ∃ x, x = v.getD 11 undef := ⟨_, rfl⟩
 obtain ⟨x12, e12⟩ : ∃ x, x = v.getD 12 undef := ⟨_, rfl⟩
 obtain ⟨x13, e13⟩ : ∃ x, x = v.getD 13 undef := ⟨_, rfl⟩
 obtain ⟨x14, e14⟩ : ∃ x, x = v.getD 14 undef := ⟨_, rfl⟩
 obtain ⟨x15, e15⟩ : ∃ x, x = v.getD 15 undef := ⟨_, rfl⟩
 obtain ⟨x16, e16⟩ : ∃ x, x = v.getD 16 undef := ⟨_, rfl⟩
 obtain ⟨x17, e17⟩ : ∃ x, x = v.getD 17 undef := ⟨_, rfl⟩
 obtain ⟨x18, e18⟩ : ∃ x, x = v.getD 18 undef := ⟨_, rfl⟩
 obtain ⟨x19, e19⟩ : ∃ x, x = v.getD 19 undef := ⟨_, rfl⟩
 obtain ⟨x20, e20⟩ : ∃ x, x = v.getD 20 undef := ⟨_, rfl⟩
 obtain ⟨x21, e21⟩ : ∃ x, x = v.getD 21 undef := ⟨_, rfl⟩
 obtain ⟨x22, e22⟩ : ∃ x, x = v.getD 22 undef := ⟨_, rfl⟩
 obtain ⟨x23, e23⟩ : ∃ x, x = v.getD 23 undef := ⟨_, rfl⟩
 obtain ⟨x24, e24⟩ : ∃ x, x = v.getD 24 undef := ⟨_, rfl⟩
 obtain ⟨x25, e25⟩ : ∃ x, x = v.getD 25 undef := ⟨_, rfl⟩
 obtain ⟨x26, e26⟩ : ∃ x, x = v.getD 26 undef := ⟨_, rfl⟩
 obtain ⟨x27, e27⟩ : ∃ x, x = v.getD 27 undef := ⟨_, rfl⟩
 obtain ⟨x28, e28⟩ : ∃ x, x = v.getD 28 undef := ⟨_, rfl⟩
 obtain ⟨x29, e29⟩ : ∃ x, x = v.getD 29 undef := ⟨_, rfl⟩
 obtain ⟨x30, e30⟩ : ∃ x, x = v.getD 30 undef := ⟨_, rfl⟩
 obtain ⟨x31, e31⟩ : ∃ x, x = v.getD 31 undef := ⟨_, rfl⟩
 obtain ⟨x32, e32⟩ : ∃ x, x = v.getD 32 undef := ⟨_, rfl⟩
 obtain ⟨x33, e33⟩ : ∃ x, x = v.getD 33 undef := ⟨_, rfl⟩
 obtain ⟨x34, e34⟩ : ∃ x, x = v.getD 34 undef := ⟨_, rfl⟩
 obtain ⟨x35, e35⟩ : ∃ x, x = v.getD 35 undef := ⟨_, rfl⟩
 obtain ⟨x36, e36⟩ : ∃ x, x = v.getD 36 undef := ⟨_, rfl⟩
 obtain ⟨x37, e37⟩ : ∃ x, x = v.getD 37 undef := ⟨_, rfl⟩
 rw [← e4] at v4; rw [← e5] at v5; rw [← e6] at v6; rw [← e8] at v8; rw [← e30] at v30
 rw [← e0, ← e1, ← e2, ← e3, ← e4, ← e5, ← e6, ← e7, ← e8, ← e9, ← e10, ← e11, ← e12, ← e13, ← e14, ← e15, ← e16, ← e17, ← e18, ← e19, ← e20, ← e21, ← e22, ← e23, ← e24, ← e25, ← e26, ← e27, ← e28, ← e29, ← e30, ← e31, ← e32, ← e33, ← e34, ← e35, ← e36, ← e37]at hv
 clear e0 e1 e2 e3 e4 e5 e6 e7 e8 e9 e10 e11 e12 e13 e14 e15 e16 e17 e18 e19 e20 e21 e22 e23 e24 e25 e26 e27 e28 e29 e30 e31 e32 e33 e34 e35 e36 e37 hs
 subst hv
 subst v8
 rw [zBp] at v5
 simp only [yA0, Rp, RpAt] at v4 v5 v6 v30
 obtain ⟨b4, o4, rfl, ⟨u4, g4, r4⟩, _⟩ := v4
 obtain ⟨b5, o5, rfl, ⟨p0, g50, r50⟩, ⟨p1, g51, r51⟩, _⟩ := v5
 obtain ⟨b6, o6, rfl, ⟨u6, g6, rfl, _⟩, _⟩ := v6
 obtain ⟨us, rfl, hus⟩ := v30
 have c8 : w.cell? ⟨b8, 0, none⟩ = some (.bool false) := by unfold World.cell?; simp [hc8]
 have f8 : w.frozen? ⟨b8, 0, none⟩ = false := by unfold World.frozen?; simp [hc8]
 have hlt8 : b8 < w.heap.size := (Array.getElem?_eq_some_iff.1 hc8).1
 have hcall : ∀ (x : Nat), x < d.length → ∀ W, MemOk m W → Glob.ok W → Calls Tryz.prog 116 #[u4, .agg #[p0, p1], .int .i64 k, .int .i64 x] W fun e W' => e = .returned (.bool (X x)) ∧ Below W.heap.size W W' := fun x hx W hW hGW => by
  have hT := (hX x hx).2 m W [u4, .agg #[p0, p1], .int .i64 k, .int .i64 x] hW ⟨_, _, rfl, r4, _, _, rfl, ⟨[p0, p1], rfl, by rw [zBp]; exact ⟨_, _, rfl, r50, _, _, rfl, r51, rfl⟩⟩, _, _, rfl, ⟨rfl, rfl⟩, _, _, rfl, ⟨rfl, rfl⟩, rfl⟩ (by intro g h; cases h) hGW (by rintro b (h | h) <;> cases h)
  refine hT.mono fun e w' ⟨m', _, _, hp, _, _, v, hv, hr⟩ => ?_
  exact ⟨by rw [hv]; exact congrArg _ hr.1, ⟨hp.os, hp.tape, hp.output, hp.size, fun b hb => hp.block b hb (by rintro (h | h) <;> cases h)⟩⟩
 have hfw : ∀ g, Fence.wide.fn g := fun _ => trivial
 simp only [Tryz.f116, Option.getD_some, cdL, cdR]
 refine wpIn_block ?_
 refine wpIn_rangeFunc_ownG rfl (by decide) (gf := 226) (lb := us.toArray) rfl trivial (enters_of Tryz.func226 (by kernel_rfl) rfl)
  (zXg d hd link n hn m w us hm hG hus 2 (by decide)) belowK_t (belowK_b (Nat.le_refl _)) (Below.refl _ _) (fun _ => rfl)
  (fun pre W => (∀ y ∈ pre, X y.1 = false) ∧ Below w.heap.size w W)
  (fun c pre W => (c = .ret ∧ (∃ y ∈ pre, X y.1 = true) ∧ MemOk m W ∧ W.cell? ⟨b8, 0, none⟩ = some (.bool true)) ∧ Below w0.heap.size w0 W)
  (OwnFrom.and (ownFrom_pure _ _) (ownFrom_below (Nat.le_refl _) (Nat.le_refl _)))
  (fun c => OwnFrom.and (Own.from (fun s A B row hs hg hr => ⟨hs.1, hs.2.1, zPr m () A B row hs.2.2.1 hg hr, cell_kept hs.2.2.2 hg hr⟩) _) (ownFrom_below (Nat.le_refl _) hB0.size))
  ⟨by simp, Below.refl _ _⟩
  (fun x => { tmps := #[x0, x1, x2, x3, .pointer (some ⟨b4, o4, none⟩), .pointer (some ⟨b5, o5, none⟩), .pointer (some ⟨b6, o6, none⟩), x7, .pointer (some ⟨b8, 0, none⟩), .int .i64 x.1, x10, x11, x12, x13, x14, x15, x16, x17, x18, x19, x20, x21, x22, x23, x24, x25, x26, x27, x28, x29, .func (.func 226) #[] us.toArray, .int .i64 x.1, x32, x33, x34, x35, x36, x37], defers := [] }) ?assign ?body ?done ?stop
 case assign =>
  intro l x W K hK
  gi_wp2
  exact hK
 case body =>
  rintro l pre x W ⟨hp, hB⟩ _
  have hmW := yHi hm hB
  have d4 := hmW _ _ _ g4
  have d50 := hmW _ _ _ g50
  have d51 := hmW _ _ _ g51
  have d6 := hmW _ _ _ g6
  have hcx := hcall x.1 x.2 W hmW (yGF hG hB)
  gi_wp2
  refine (CallsIn.inRound l (callsIn_wide.2 hcx)).mono ?_
  rintro e W1 ⟨rfl, hbW⟩
  have hB1 : Below w.heap.size w W1 := hB.trans (hbW.mono hB.size)
  have c8' := (World.cell?_of_block (hB1.block b8 hlt8)).trans c8
  have f8' := (World.frozen?_of_block (hB1.block b8 hlt8)).trans f8
  have hkf : KeepsFrom w.heap.size W W1 := ⟨hbW.size, fun k o _ hk _ => (hbW.block k (Array.getElem?_eq_some_iff.1 hk).1).trans hk⟩
  have hBW1 : Below w.heap.size W W1 := hbW.mono hB.size
  cases hXx : X x.1 with
  | true =>
   gi_wp2
   exact ⟨hkf.trans ((KeepsOthers.setCell _ _ _).from _), ⟨rfl, ⟨x, by simp, hXx⟩, zVN (yHi hm hB1) hm8 _, World.cell?_setCell_same' _ _ _ (by rw [c8']; rfl)⟩, (hB0.trans (hB1.mono hB0.size)).setCell (p := ⟨b8, 0, none⟩) h8 _⟩
  | false =>
   gi_wp2
   exact ⟨hkf, hBW1, ⟨fun y hy => (List.mem_append.1 hy).elim (hp y) (fun e => by simp at e; rw [e]; exact hXx), hB1⟩⟩
 case done =>
  rintro D ys W hD hys ⟨hne, hB⟩ hK
  have c8' := (World.cell?_of_block (hB.block b8 hlt8)).trans c8
  have f8' := (World.frozen?_of_block (hB.block b8 hlt8)).trans f8
  show Code.wpIn _ _ _ _ _ _ _
  gi_wp2
  have hK' := (KeepsOthers.setCell W ⟨b8, 0, none⟩ (.bool false)).same D _ hK rfl
  refine ⟨by simp, .inl ⟨_, _, rfl, run_takeDeferred hK', ?_⟩⟩
  have hc5 := cell_kept (World.cell?_setCell_same' W ⟨b8, 0, none⟩ (.bool false) (by rw [c8']; rfl)) (grownBy_putObj' _ D (.deferred none)) (fun r e => by cases e; exact ⟨_, hK', rfl⟩)
  have hB5 := ((hB0.trans (hB.mono hB0.size)).setCell (p := ⟨b8, 0, none⟩) h8 (.bool false)).trans (belowK_b (w := w) hB0.size _ D _ (.deferred none) hD hK' rfl rfl)
  have hm5 := zPr m () _ _ _ (zVN (yHi hm hB) hm8 (.bool false)) (grownBy_putObj' _ D (.deferred none)) (fun r e => by cases e; exact ⟨_, hK', rfl⟩)
  have hany : (zZS d link n).any X = false := by
   rw [List.any_eq_false, ← hys]
   intro z hz
   obtain ⟨y, hy, rfl⟩ := List.mem_map.1 hz
   rw [hne y hy]; decide
  have hr := hR _ hm5 hB5
  rw [hany] at hr
  refine ⟨.bool false, ?_, hr⟩
  simp [results, hfr, go_sem, hc5]
 case stop =>
  rintro D c pre W hD hpre ⟨⟨rfl, ⟨y, hy, hXy⟩, hmW, hc8⟩, hB⟩ hK
  gi_wp2
  refine ⟨by simp, .inl ⟨_, _, rfl, run_takeDeferred hK, ?_⟩⟩
  have hc5 := cell_kept hc8 (grownBy_putObj' _ D (.deferred none)) (fun r e => by cases e; exact ⟨_, hK, rfl⟩)
  have hB5 := hB.trans (belowK_b (w := w) hB0.size W D _ (.deferred none) hD hK rfl rfl)
  have hm5 := zPr m () _ _ _ hmW (grownBy_putObj' _ D (.deferred none)) (fun r e => by cases e; exact ⟨_, hK, rfl⟩)
  have hany : (zZS d link n).any X = true := by
   rw [List.any_eq_true]
   exact ⟨y.1, hpre.subset (List.mem_map.2 ⟨y, hy, rfl⟩), hXy⟩
  have hr := hR _ hm5 hB5
  rw [hany] at hr
  refine ⟨.bool true, ?_, hr⟩
  simp [results, hfr, go_sem, hc5]
end Go.Hx
end

section
set_option maxRecDepth 100000
set_option linter.unusedSimpArgs false
set_option maxHeartbeats 4000000
namespace Go.Hx
open Go.Proofs Go.RowKit Go.Shelf
variable [Glob]
attribute [local go_sem] zAu zAr zAs zAk ndV zAo zAj zBc zAJ zAO zAI zBm
attribute [local go_sem] reduceCtorEq Nat.reduceAdd Nat.reduceEqDiff reduceIte Nat.reduceLeDiff Nat.reduceLT Nat.reduceSub
theorem zME {P : Program} {E : Env} {S : Start} (wf : E.Wf) {x y : Code} {hx hy : HCode} {F : List Ct} {a : Act} {w : World} {k : Nat} {QA : Exit → List Ct → Prop} {Q : Exit → Act → World → Prop} (hk : zCS P E x hx = true) (hW : hwp P (.seq hx hy) QA F) (hI : Inv E S F a w)
  (hn : ∀ F a w, hwp P hy QA F → Inv E S F a w → y.wpIn Fence.wide k P Q a w) (ho : ∀ e F a w, e ≠ .normal → QA e F → Inv E S F a w → Q e a w) : (Code.seq x y).wpIn Fence.wide k P Q a w := by
 refine wpIn_seq (wpIn_mono (wpIn_wide.2 (zL3 wf x hx _ _ _ _ hk hW hI)) ?_)
 rintro e a w ⟨F', hq, hi⟩
 cases e with
 | normal => exact hn F' a w hq hi
 | exit id => exact ho _ F' a w (by simp) hq hi
 | ret => exact ho _ F' a w (by simp) hq hi
 | goto t => exact ho _ F' a w (by simp) hq hi
 | panic ch => exact ho _ F' a w (by simp) hq hi
 | outgrown => exact ho _ F' a w (by simp) hq hi
def lpQ (av : List AV) (r : RV) (G : List Ct → Prop) : Exit → List Ct → Prop
 | .normal, F => G F
 | .ret, F => zZQ match_look_path_E 0 av zBX r .ret F
 | .exit _, _ => False
 | .goto _, _ => False
 | .panic _, _ => False
 | .outgrown, _ => False
theorem zXh {av : List AV} {r : RV} {G : List Ct → Prop} {F : List Ct} : lpQ av r G .normal F = G F := rfl
theorem zXi {av : List AV} {r : RV} {G : List Ct → Prop} {F : List Ct} : lpQ av r G .ret F = zZQ match_look_path_E 0 av zBX r .ret F := rfl
theorem yDe {av : List AV} {b : Bool} {F : List Ct} (hio : ioOf av = none) (h8 : F.getD 8 .un = .ptr 0 0) (h38 : F.getD 38 .un = .pv (.one (.v (.bool b)))) : zZQ match_look_path_E 0 av zBX { res := .val (bv b) } .ret F := by
 refine ⟨?_, fun cs h => by rw [hio] at h; cases h⟩
 simp only [zJG, zBX, rsV, h8, zAW, zKG, Nat.add_zero, h38]
 exact ⟨trivial, trivial, .inl rfl⟩
def lpG (d : List Nd) (p : Pt) (j n : Nat) (F : List Ct) : Prop :=
 ∃ i, j = i + 1 ∧ sM d (p.steps.getD j default) n = true ∧ F.getD 4 .un = .pv (.one (.fp [zBm d])) ∧ F.getD 5 .un = .pv (.one (.fp (ptV p))) ∧ F.getD 6 .un = .pv (.one (.fp [bI (j + 1 : Nat)])) ∧ F.getD 8 .un = .ptr 0 0 ∧
  F.getD 30 .un = .pv (.one (yA0 d (p.links.getD i 0) n)) ∧ F.getD 38 .un = .pv (.one (.v (.bool false)))
theorem yEM (d : List Nd) (p : Pt) (j n : Nat) (hj : j < p.steps.length) (p2 : p.steps.length ≤ 5) (p3 : p.links.length + 1 = p.steps.length)
  (hS : Contract Tryz.prog zBi [.val (.one (zBm d)), .val (.agg (stV (p.steps.getD j default))), .val (iv n)] { res := .val (bv (sM d (p.steps.getD j default) n)) }) :
  hwp Tryz.prog lpA (lpQ [.val (.one (zBm d)), .val (.agg (ptV p)), .val (iv (j + 1 : Nat)), .val (iv n)] { res := .val (bv (zDL d (p.steps.map (sM d)) p.links j n)) } (lpG d p j n)) (F0 match_look_path_E 0 [.val (.one (zBm d)), .val (.agg (ptV p)), .val (iv (j + 1 : Nat)), .val (iv n)]) := by
 have hget := zEh p.steps j hj
 have hps : (p.steps.map (sM d)).getD j (fun _ => false) = sM d (p.steps.getD j default) := by
  rw [List.getD_eq_getElem?_getD, List.getElem?_map, List.getD_eq_getElem?_getD, List.getElem?_eq_getElem hj]; rfl
 obtain ⟨s, hs⟩ : ∃ s, s = p.steps.getD j default := ⟨_, rfl⟩
 rw [← hs] at hget hS hps
 obtain ⟨b, hb⟩ : ∃ b, b = sM d s n := ⟨_, rfl⟩
 obtain ⟨G, hG⟩ : ∃ G, G = lpG d p j n := ⟨_, rfl⟩
 rw [← hG]
 have hp0 : b = false → zDL d (p.steps.map (sM d)) p.links j n = false := fun h => by
  cases j with
  | zero => rw [zDL, hps, ← hb, h]
  | succ i => rw [zDL, hps, ← hb, h]; rfl
 have hp1 : j = 0 → b = true → zDL d (p.steps.map (sM d)) p.links j n = true := fun h0 h => by
  subst h0; rw [zDL, hps, ← hb, h]
 obtain ⟨r, hr⟩ : ∃ r, r = zDL d (p.steps.map (sM d)) p.links j n := ⟨_, rfl⟩
 rw [← hr] at hp0 hp1 ⊢
 have hpt := zBp p
 rw [zCk] at hget hS
 rw [← hb] at hS
 rw [zBp]
 have e1 : (((j + 1 : Nat) : Int) - 1) = (j : Int) := by omega
 unfold F0 match_look_path_E
 simp (maxSteps := 2000000) only [zAD, List.set_cons_succ, List.set_cons_zero, List.map_cons, List.map_nil, zAB, zAa, ioOf, List.length_cons, List.length_nil, Nat.reduceAdd, Nat.reduceSub, List.replicate, List.cons_append, List.nil_append]
 try simp (maxSteps := 2000000) only [go_sem, zXh, zXi, e1, Int.toNat_natCast, hget]
 repeat with_reducible refine zAb ?_
 refine zAt (by repeat' constructor) (hS) ?_
 try simp (maxSteps := 2000000) only [go_sem, zXh, zXi, hget]
 repeat with_reducible refine zAb ?_
 refine zAc (by rfl) trivial (fun g1 => ?_) (fun g1 => ?_)
 ·try simp (maxSteps := 2000000) only [go_sem, zXh, zXi]
  repeat with_reducible refine zAb ?_
  have h0 : b = false := by simpa using g1
  rw [hp0 h0]
  exact yDe rfl rfl rfl
 ·have h1 : b = true := by simpa using g1
  try simp (maxSteps := 2000000) only [go_sem, zXh, zXi]
  repeat with_reducible refine zAb ?_
  refine zAc (by rfl) trivial (fun g2 => ?_) (fun g2 => ?_)
  ·try simp (maxSteps := 2000000) only [go_sem, zXh, zXi]
   repeat with_reducible refine zAb ?_
   have h0 : j = 0 := by simp at g2; omega
   rw [hp1 h0 h1]
   exact yDe rfl rfl rfl
  ·have h0 : j ≠ 0 := by simp at g2; omega
   obtain ⟨i, rfl⟩ : ∃ i, j = i + 1 := ⟨j - 1, by omega⟩
   have e2 : (((i + 1 + 1 : Nat) : Int) - 2) = (i : Int) := by omega
   have hlk := zFD p.links i (by omega)
   have hil : i < p.links.length := by omega
   have hrd := zSR d (p.links.getD i 0) n
   try simp (maxSteps := 2000000) only [go_sem, zXh, zXi, e2, Int.toNat_natCast, hlk]
   repeat with_reducible refine zAb ?_
   refine zAt (by repeat' constructor) (hrd) ?_
   try simp (maxSteps := 2000000) only [go_sem, zXh, zXi]
   repeat with_reducible refine zAb ?_
   rw [hG]
   exact ⟨i, rfl, by rw [← hs, ← hb, h1], rfl, by rw [zBp]; rfl, rfl, rfl, rfl, rfl⟩
abbrev zZT (d : List Nd) (p : Pt) (j n : Nat) : List AV := [.val (.one (zBm d)), .val (.agg (ptV p)), .val (iv (j + 1 : Nat)), .val (iv n)]
theorem yIz {d : List Nd} {p : Pt} {j n : Nat} {m : Mem} {w : World} : ∀ {us : List Value}, ArgsRep m w (zZT d p j n) us → zHQ (zZT d p j n) us = none ∧ ioB (zZT d p j n) us = none := by
 intro us h
 obtain ⟨u0, us0, rfl, _, u1, us1, rfl, _, u2, us2, rfl, _, u3, us3, rfl, _, rfl⟩ := h
 exact ⟨rfl, rfl⟩
theorem zLB (d : List Nd) (hd : zEw d d.length = true) (p : Pt) (j n : Nat) (hn : n < d.length) (hj : j < p.steps.length) (p2 : p.steps.length ≤ 5) (p3 : p.links.length + 1 = p.steps.length) (p4 : ∀ n ∈ p.links, 1 ≤ n ∧ n ≤ 4)
  (hS : Contract Tryz.prog zBi [.val (.one (zBm d)), .val (.agg (stV (p.steps.getD j default))), .val (iv n)] { res := .val (bv (sM d (p.steps.getD j default) n)) })
  (hP : ∀ i, j = i + 1 → ∀ x, x < d.length → Contract Tryz.prog zAZ [.val (.one (zBm d)), .val (.agg (ptV p)), .val (iv (i + 1 : Nat)), .val (iv x)] { res := .val (bv (zDL d (p.steps.map (sM d)) p.links i x)) }) :
  Contract Tryz.prog zAZ [.val (.one (zBm d)), .val (.agg (ptV p)), .val (iv (j + 1 : Nat)), .val (iv n)] { res := .val (bv (zDL d (p.steps.map (sM d)) p.links j n)) } := by
 refine ⟨by kernel_rfl, fun m w us hm ha hd' hG0 hGR => ?_⟩
 have hE := Bool.and_eq_true_iff.1 yI2
 have wf := Env.wf_of_ok hE.1
 have hno := yIz ha
 have hfo : zT9 match_look_path_E 0 (zZT d p j n) := ⟨Nat.le_of_ble_eq_true rfl, Nat.le_of_ble_eq_true rfl, Nat.le_of_ble_eq_true rfl, rfl⟩
 have h0 := zUc hE.2 wf hfo hm ha hd' hG0 hGR
 have hW := yEM d p j n hj p2 p3 hS
 have hnr : ∀ b, ¬ zLW (zZT d p j n) us b := by
  rintro b (h | h)
  ·rw [hno.1] at h; cases h
  ·rw [hno.2] at h; cases h
 have hpost : ∀ {m5 : Mem} {W : World} (v : Bool), m.le m5 → MemOk m5 W → Below w.heap.size w W → (∀ b o u, m5 b o = some u → m b o = some u ∨ w.heap.size ≤ b) → v = zDL d (p.steps.map (sM d)) p.links j n →
   yCM m w (zZT d p j n) us { res := .val (bv (zDL d (p.steps.map (sM d)) p.links j n)) } (.returned (.bool v)) W := fun {m5 W} v h1 h2 h3 h4 h5 => by
  refine ⟨m5, h1, h2, Pres.of_below _ h3, fun b o u hu => ?_, fun b hb => ?_, _, rfl, ?_⟩
  ·rcases h4 b o u hu with h | h
   ·exact .inl h
   ·exact .inr (.inl h)
  ·rw [hno.2] at hb; cases hb
  ·rw [← h5]; exact ⟨rfl, rfl⟩
 have key : ∀ {m5 : Mem} {β : Bx} {ow : Ow} {F : List Ct} {a' : Act} {w' : World}, InvG match_look_path_E { w0 := w, m0 := m, R0 := zLW (zZT d p j n) us, b0 := fun q => if q = 0 then ioB (zZT d p j n) us else none, g0 := hG0, gR := hGR } m5 β ow F a' w' →
   m.le m5 ∧ MemOk m5 w' ∧ Below w.heap.size w w' ∧ (∀ b o u, m5 b o = some u → m b o = some u ∨ w.heap.size ≤ b) := fun hI =>
  ⟨hI.mle, hI.mem, ⟨hI.pres.os, hI.pres.tape, hI.pres.output, hI.pres.size, fun b hb => hI.pres.block b hb (hnr b)⟩, fun b o u hu => by
   rcases hI.new b o u hu with h | h | h
   ·exact .inl h
   ·exact .inr h
   ·exact absurd h (hnr b)⟩
 have hx : ∀ (e : Exit) (F : List Ct) (a' : Act) (w' : World), e ≠ .normal → lpQ (zZT d p j n) { res := .val (bv (zDL d (p.steps.map (sM d)) p.links j n)) } (lpG d p j n) e F →
   Inv match_look_path_E { w0 := w, m0 := m, R0 := zLW (zZT d p j n) us, b0 := fun q => if q = 0 then ioB (zZT d p j n) us else none, g0 := hG0, gR := hGR } F a' w' →
   bodyPostM Fence.wide 3 Tryz.prog Tryz.f116 (yCM m w (zZT d p j n) us { res := .val (bv (zDL d (p.steps.map (sM d)) p.links j n)) }) e a' w' := by
  rintro e F a' w' hne hq ⟨m5, β, ow, hI⟩
  cases e with
  | normal => exact absurd rfl hne
  | exit id => exact hq.elim
  | goto t => exact hq.elim
  | panic ch => exact hq.elim
  | outgrown => exact hq.elim
  | ret =>
   obtain ⟨c1, c2, c3, c4⟩ := key hI
   obtain ⟨us', h1, h2⟩ := zHf hI yI3 (xs := [bv (zDL d (p.steps.map (sM d)) p.links j n)]) (by simp only [zWw]; exact ⟨hq.1, trivial⟩)
   obtain ⟨u, us'', rfl, h3, h4⟩ := h2
   simp only [RpVL] at h4
   subst h4
   have hu : u = .bool (zDL d (p.steps.map (sM d)) p.links j n) := h3.1
   subst hu
   show LeavesInM _ _ _ _ _ _ a'.defers _ _
   rw [hI.dfr]
   exact ⟨_, h1, hpost _ c1 c2 c3 c4 rfl⟩
 refine (callsIn_wide (n := 3)).1 (callsIn_of_wp_marks Tryz.func116 (c := Tryz.f116.body.getD .skip) (by kernel_rfl) trivial ?_ rfl)
 rw [yIx]
 refine zME wf yIt hW h0 (fun F1 a1 w1 hW1 hI1 => zME wf yIu hW1 hI1 (fun F2 a2 w2 hW2 hI2 => zME wf yIv hW2 hI2 (fun F3 a3 w3 hW3 hI3 => ?_) hx) hx) hx
 refine wpIn_seq (wpIn_seq (wpIn_mono (wpIn_wide.2 (zL3 wf _ _ _ _ _ _ yIw hW3 hI3)) ?_))
 rintro e a' w' ⟨F', hq, hi⟩
 cases e with
 | exit id => exact hx _ F' a' w' (by simp) hq hi
 | ret => exact hx _ F' a' w' (by simp) hq hi
 | goto t => exact hx _ F' a' w' (by simp) hq hi
 | panic ch => exact hx _ F' a' w' (by simp) hq hi
 | outgrown => exact hx _ F' a' w' (by simp) hq hi
 | normal =>
  obtain ⟨i, rfl, hs1, q4, q5, q6, q8, q30, q38⟩ := hq
  obtain ⟨m5, β, ow, hI⟩ := hi
  obtain ⟨c1, c2, c3, c4⟩ := key hI
  have v4 := hI.slots 4 (by decide)
  have v5 := hI.slots 5 (by decide)
  have v6 := hI.slots 6 (by decide)
  have v8 := hI.slots 8 (by decide)
  have v30 := hI.slots 30 (by decide)
  rw [q4] at v4; rw [q5] at v5; rw [q6] at v6; rw [q8] at v8; rw [q30] at v30
  obtain ⟨b8, hb8, v8⟩ := v8
  have hbx := hI.boxes 0 (38, 1) rfl
  rw [hb8] at hbx
  obtain ⟨hown, hmb, cs, T, hblk, hsz, hcell⟩ := hbx
  have hc := hcell 0 (by decide)
  rw [q38] at hc
  have hcs : cs = #[.bool false] := by
   have h1 : cs.getD 0 undef = .bool false := hc.1
   refine Array.ext (by rw [hsz]; rfl) (fun k hk1 hk2 => ?_)
   have hk : k = 0 := by simp at hk2; omega
   subst hk
   rw [Array.getD_eq_getD_getElem?, Array.getElem?_eq_getElem hk1] at h1
   exact h1
  subst hcs
  have h8 : w.heap.size ≤ b8 := by
   rcases hI.own b8 _ hown with h | h
   ·exact h
   ·exact absurd h (hnr b8)
  obtain ⟨tm, df⟩ := a'
  obtain rfl : df = [] := hI.dfr
  have hlk := p4 (p.links.getD i 0) (by rw [List.getD_eq_getElem?_getD, List.getElem?_eq_getElem (by omega)]; exact List.getElem_mem (by omega))
  have hps : (p.steps.map (sM d)).getD (i + 1) (fun _ => false) = sM d (p.steps.getD (i + 1) default) := by
   rw [List.getD_eq_getElem?_getD, List.getElem?_map, List.getD_eq_getElem?_getD, List.getElem?_eq_getElem hj]; rfl
  have hval : zDL d (p.steps.map (sM d)) p.links (i + 1) n = (zZS d (p.links.getD i 0) n).any (fun x => zDL d (p.steps.map (sM d)) p.links i x) := by
   rw [zZv hd hn hlk.1 hlk.2, hps, hs1, Bool.true_and]
  exact yEL d hd (p.links.getD i 0) n hn p (i + 1) (by omega) (fun x => zDL d (p.steps.map (sM d)) p.links i x) (fun x hx => hP i rfl x hx) m5 w w' hI.mem hI.glob c3 tm hI.lenA b8 T h8 hmb hblk v4 v5 v6 v8 v30 _ _ rfl
   (fun W h1 h2 => hpost _ c1 h1 h2 c4 hval.symm)
end Go.Hx
end

section
set_option maxRecDepth 100000
set_option linter.unusedSimpArgs false
set_option maxHeartbeats 4000000
namespace Go.Hx
open Go.Proofs
variable [Glob]
attribute [local go_sem] zAu zAr zAs zAk ndV zAo zAj zBc zAJ zAO zAI zBm
theorem zHw (d : List Nd) (hd : zBr d = 0) (p : Pt) (p1 : 1 ≤ p.steps.length) (p2 : p.steps.length ≤ 5) (p3 : p.links.length + 1 = p.steps.length) (p4 : ∀ n ∈ p.links, 1 ≤ n ∧ n ≤ 4)
  (hS : ∀ s ∈ p.steps, ∀ n, n < d.length → Contract Tryz.prog zBi [.val (.one (zBm d)), .val (.agg (stV s)), .val (iv n)] { res := .val (bv (sM d s n)) }) :
  ∀ j, j < p.steps.length → ∀ n, n < d.length → Contract Tryz.prog zAZ [.val (.one (zBm d)), .val (.agg (ptV p)), .val (iv (j + 1 : Nat)), .val (iv n)] { res := .val (bv (zDL d (p.steps.map (sM d)) p.links j n)) }
 | 0, hj, n, hn => zLB d (yGA hd).2.2 p 0 n hn hj p2 p3 p4 (hS _ (zDO hj) n hn) (fun i e => absurd e (by omega))
 | j + 1, hj, n, hn => zLB d (yGA hd).2.2 p (j + 1) n hn hj p2 p3 p4 (hS _ (zDO hj) n hn) (fun i e m hm => (Nat.succ.inj e) ▸ zHw d hd p p1 p2 p3 p4 hS j (by omega) m hm)
theorem zNr (d : List Nd) (n : Nat) : Contract Tryz.prog zAE [.val (.one (zBm d)), .val (zBc []), .val (iv n)] { res := .val (bv (lM d [] n)) } :=
 zLv d [] n (fun i hi => absurd hi (Nat.not_lt_zero i))
theorem zLC (hM : zQf) (d : List Nd) (hd : zBr d = 0) {e : Nat} (t : Ts) (h : GT t e)
  (hL : 13 ≤ t.kind → ∀ m, m < d.length → Contract Tryz.prog zAE [.val (.one (zBm d)), .val (zBc t.list), .val (iv m)] { res := .val (bv (lM d t.list m)) }) (n : Nat) (hn : n < d.length) :
  Contract Tryz.prog zA4 [.val (.one (zBm d)), .val (.agg (tsV t)), .val (iv n)] { res := .val (bv (tM d t n)) } := by
 refine zJx hM d hd t h.parts'.1 n hn (fun m hm => ?_)
 by_cases hk : 13 ≤ t.kind
 ·exact hL hk m hm
 ·have e : t.list = [] := by
   obtain ⟨k, nm, v, a, b, l⟩ := t
   have := h.parts.2.2.2.2.2
   rw [if_neg (show ¬ 13 ≤ k from hk)] at this
   exact this
  rw [e]
  exact zNr d m
theorem zHx (hM : zQf) (d : List Nd) (hd : zBr d = 0) : ∀ (f e : Nat), e + f = 4 → ∀ l : List Pt, GL l e → ∀ n : Nat, n < d.length → Contract Tryz.prog zAE [.val (.one (zBm d)), .val (zBc l), .val (iv n)] { res := .val (bv (lM d l n)) }
 | 0, e, he, l, hg, n, hn => by exact absurd hg.1 (by omega)
 | f + 1, e, he, l, hg, n, hn => by
  refine zLv d l n (fun i hi => ?_)
  have hp := zDO hi
  obtain ⟨p, ep⟩ : ∃ p, p = l.getD i default := ⟨_, rfl⟩
  rw [← ep] at hp ⊢
  obtain ⟨p1, p2, p3, p4, p5⟩ := (yEx hg.2.2.2 p hp).parts'
  have := zHw d hd p p1 p2 p3 p4 (fun s hs n hn => by
   obtain ⟨s1, s2⟩ := (yEy p5 s hs).parts'
   refine zSQ d s n hn (fun i hi => ?_)
   have hgt := yEz s2 _ (zDO hi)
   exact zLC hM d hd _ hgt (fun hk m hm => zHx hM d hd f (e + 1) (by omega) _ (hgt.parts'.2 hk) m hm) n hn) (p.steps.length - 1) (by omega) n hn
  rw [show p.steps.length - 1 + 1 = p.steps.length by omega] at this
  rw [yCb]
  exact this
theorem zVO (hM : zQf) (d : List Nd) (hd : zBr d = 0) (l : List Pt) (h : zA6 l = 0) (n : Nat) (hn : n < d.length) : Contract Tryz.prog zAE [.val (.one (zBm d)), .val (zBc l), .val (iv n)] { res := .val (bv (lM d l n)) } :=
 zHx hM d hd 3 1 rfl l (yGw h) n hn
end Go.Hx
end

section
set_option maxRecDepth 100000
set_option linter.unusedSimpArgs false
set_option maxHeartbeats 4000000
namespace Go.Hx
open Go.Proofs
variable [Glob]
attribute [local go_sem] zAu zAr zAs zAk ndV zAo zAj zBc zAJ zAO zAI zBm List.take_nil
attribute [local go_sem] reduceCtorEq Nat.reduceAdd Nat.reduceEqDiff reduceIte Nat.reduceLeDiff Nat.reduceLT Nat.reduceSub
def zRi (d : List Nd) (l : List Pt) : Int := if zBr d ≠ 0 then zBr d else zA6 l
def zZy (d : List Nd) (e : Int) : PVal := if e = 0 then .one (zBm d) else .one (.v (.pointer none))
theorem yEO {d : List Nd} {l : List Pt} (h : zRi d l = 0) : zBr d = 0 ∧ zA6 l = 0 := by
 unfold zRi at h
 split at h
 ·rename_i h1; exact absurd h h1
 ·rename_i h1; exact ⟨by simpa using h1, h⟩
theorem zSW (d : List Nd) (l : List Pt) : Contract Tryz.prog zFm [.val (zPS d), .val (zBc l)] { res := .tup [zZy d (zRi d l), iv (zRi d l)] } := by
 have hD := zXl d
 have hL := zFc l
 have hO := fun h => zZo d h
 unfold zPS at hD hO ⊢
 unfold zBc at hL ⊢
 refine mkA zQd (base := 0) (fo rfl) (fun hfit => ?_)
 unfold F0 zLo
 simp (maxSteps := 2000000) only [zAD, List.set_cons_succ, List.set_cons_zero, List.map_cons, List.map_nil, zAB, zAa, ioOf, List.length_cons, List.length_nil, Nat.reduceAdd, Nat.reduceSub, List.replicate, List.cons_append, List.nil_append]
 try simp (maxSteps := 2000000) only [go_sem]
 repeat with_reducible refine zAb ?_
 refine zAt (by repeat' constructor) (hD) ?_
 try simp (maxSteps := 2000000) only [go_sem]
 repeat with_reducible refine zAb ?_
 refine zAc (by rfl) trivial (fun g1 => ?_) (fun g1 => ?_)
 ·try simp (maxSteps := 2000000) only [go_sem]
  repeat with_reducible refine zAb ?_
  have h1 : zBr d ≠ 0 := by simpa using g1
  have hb : zRi d l = zBr d := by rw [zRi, if_pos h1]
  exact zCT (by simp) ⟨zBM rfl trivial (.inl (by rw [zZy, hb, if_neg h1])), zBM rfl trivial (.inl (by rw [hb])), rfl⟩
 have h1 : zBr d = 0 := by simpa using g1
 try simp (maxSteps := 2000000) only [go_sem]
 repeat with_reducible refine zAb ?_
 refine zAt (by repeat' constructor) (hL) ?_
 try simp (maxSteps := 2000000) only [go_sem]
 repeat with_reducible refine zAb ?_
 have hb : zRi d l = zA6 l := by rw [zRi, if_neg (by simpa using h1)]
 refine zAc (by rfl) trivial (fun g2 => ?_) (fun g2 => ?_)
 ·try simp (maxSteps := 2000000) only [go_sem]
  repeat with_reducible refine zAb ?_
  have h2 : zA6 l ≠ 0 := by simpa using g2
  exact zCT (by simp) ⟨zBM rfl trivial (.inl (by rw [zZy, hb, if_neg h2])), zBM rfl trivial (.inl (by rw [hb])), rfl⟩
 have h2 : zA6 l = 0 := by simpa using g2
 try simp (maxSteps := 2000000) only [go_sem]
 repeat with_reducible refine zAb ?_
 refine zAt (by repeat' constructor) (hO h1) ?_
 try simp (maxSteps := 2000000) only [go_sem]
 repeat with_reducible refine zAb ?_
 exact zCT (by simp) ⟨zBM rfl trivial (.inl (by rw [zZy, hb, if_pos h2]; rfl)), zBM rfl trivial (.inl (by rw [hb, h2])), rfl⟩
def yIX (t : Ts) : List Pt := [.mk [.mk [] [t]] []]
end Go.Hx
end

section
set_option maxRecDepth 100000
set_option linter.unusedSimpArgs false
set_option maxHeartbeats 4000000
namespace Go.Hx
open Go.Proofs
variable [Glob]
attribute [local go_sem] zAu zAr zAs zAk ndV zAo zAj zBc zAJ zAO zAI zBm List.take_nil
attribute [local go_sem] reduceCtorEq Nat.reduceAdd Nat.reduceEqDiff reduceIte Nat.reduceLeDiff Nat.reduceLT Nat.reduceSub
theorem zKj (hM : zQf) (d : List Nd) (l : List Pt) : Contract Tryz.prog zDS [.val (zPS d), .val (zBc l)] { res := .tup [.one (.sl 1 (zCr (if zRi d l = 0 then yDa d l else []))), iv (zRi d l)] } := by
 have hB := zSW d l
 have hL := fun hd hl n hn => zVO hM d hd l hl n hn
 obtain ⟨R, hR⟩ : ∃ R, R = zZy d (zRi d l) := ⟨_, rfl⟩
 rw [← hR] at hB
 obtain ⟨e, he⟩ : ∃ e, e = zRi d l := ⟨_, rfl⟩
 rw [← he] at hB ⊢
 unfold zPS at hB ⊢
 unfold zBc at hB hL ⊢
 refine mkA zVv (base := 0) (fo rfl) (fun hfit => ?_)
 unfold F0 zPi
 simp (maxSteps := 2000000) only [zAD, List.set_cons_succ, List.set_cons_zero, List.map_cons, List.map_nil, zAB, zAa, ioOf, List.length_cons, List.length_nil, Nat.reduceAdd, Nat.reduceSub, List.replicate, List.cons_append, List.nil_append]
 try simp (maxSteps := 2000000) only [go_sem]
 repeat with_reducible refine zAb ?_
 refine zB4 (by repeat' constructor) (hB) ?_
 try simp (maxSteps := 2000000) only [go_sem]
 repeat with_reducible refine zAb ?_
 refine zAc (by rfl) trivial (fun g1 => ?_) (fun g1 => ?_)
 ·have h0 : e ≠ 0 := by simpa using g1
  try simp (maxSteps := 2000000) only [go_sem]
  repeat with_reducible refine zAb ?_
  exact zCT (by simp) ⟨zBM rfl trivial (.inr (by rw [if_neg h0]; rfl)), zBM rfl trivial (.inl rfl), rfl⟩
 have h0 : e = 0 := by simpa using g1
 obtain ⟨a1, a2⟩ := yEO (he.symm.trans h0)
 obtain ⟨d1, d2, d3⟩ := yGA a1
 rw [zZy, if_pos (he.symm.trans h0)] at hR
 subst hR
 have hL := hL a1 a2
 try simp (maxSteps := 2000000) only [go_sem]
 repeat with_reducible refine zAb ?_
 refine zAv (fun i : Nat => [(22, .pv (iv i)), (8, .own zHt 1 (zCr (zP0 d l i))), (9, .un), (23, .un), (28, .un)]) (fun i : Nat => d.length - i) (fun i : Nat => i ≤ d.length) (0) ?_ (Nat.zero_le _) ?_
 focus (simp (maxSteps := 2000000) only [go_sem, zAf, zAn, zAz, zAg]; all_goals (repeat' (first | exact trivial | exact zAl (by omega) | exact zAh rfl | exact zAw rfl | exact zAp | exact le_refl _ | refine And.intro ?_ ?_)))
 intro i hi
 have hal := yAK (d := d) (l := l) i
 try simp (maxSteps := 2000000) only [go_sem]
 repeat with_reducible refine zAb ?_
 refine zAc (by rfl) trivial (fun g1 => ?_) (fun g1 => ?_)
 ·have hil : i < d.length := by simpa using g1
  have hs := zZl (d := d) (l := l) (k := i)
  have hc := hL i hil
  try simp (maxSteps := 2000000) only [go_sem]
  repeat with_reducible refine zAb ?_
  refine zAt (by repeat' constructor) (hc) ?_
  try simp (maxSteps := 2000000) only [go_sem]
  repeat with_reducible refine zAb ?_
  refine zAc (by rfl) trivial (fun g2 => ?_) (fun g2 => ?_)
  ·try simp (maxSteps := 2000000) only [go_sem]
   repeat with_reducible refine zAb ?_
   refine ⟨i + 1, by omega, by omega, ?_⟩
   simp (maxSteps := 2000000) only [go_sem, zAf, zAn, zAz, zAg]
   all_goals (repeat' (first | exact trivial | exact zAl (by omega) | exact zAh rfl | exact zAw rfl | exact zAp | exact le_refl _ | refine And.intro ?_ ?_))
   refine zDR ?_
   rw [hs, g2, if_pos rfl]
   simp [zCr]
  ·try simp (maxSteps := 2000000) only [go_sem]
   repeat with_reducible refine zAb ?_
   refine ⟨i + 1, by omega, by omega, ?_⟩
   simp (maxSteps := 2000000) only [go_sem, zAf, zAn, zAz, zAg]
   all_goals (repeat' (first | exact trivial | exact zAl (by omega) | exact zAh rfl | exact zAw rfl | exact zAp | exact le_refl _ | refine And.intro ?_ ?_))
   refine zDR ?_
   rw [hs, g2]
   simp
 ·try simp (maxSteps := 2000000) only [go_sem]
  repeat with_reducible refine zAb ?_
  have hil : i = d.length := by simp at g1; omega
  exact zCT (by simp) ⟨zBM rfl trivial (.inl (by rw [if_pos h0, hil]; rfl)), zBM rfl trivial (.inl (by rw [h0])), rfl⟩
end Go.Hx
end

section
set_option maxRecDepth 100000
set_option linter.unusedSimpArgs false
namespace Go.Hx
open Go.Proofs
variable [Glob]
attribute [local go_sem] zAu zAr zAs zAk ndV zAo zPS zBc
attribute [local go_sem] reduceCtorEq Nat.reduceAdd Nat.reduceEqDiff reduceIte Nat.reduceLeDiff Nat.reduceLT Nat.reduceSub
theorem yA8 (t : Ts) : Contract Tryz.prog zGd [.val (.agg (tsV t))] { res := .val (zBc (yIX t)) } := by
 rw [show zBc (yIX t) = .one (.sl 2 [[.sl 2 [[bS [], .sl 6 [tsV t]]], .sl 1 []]]) by obtain ⟨k, nm, v, a, b, l⟩ := t; rfl, zBh]
 refine mkA zZB (base := 0) (fo rfl) (fun hfit => ?_)
 unfold F0 zVV
 simp (maxSteps := 2000000) only [zAD, List.set_cons_succ, List.set_cons_zero, List.map_cons, List.map_nil, zAB, zAa, ioOf, List.length_cons, List.length_nil, Nat.reduceAdd, Nat.reduceSub, List.replicate, List.cons_append, List.nil_append]
 try simp (maxSteps := 2000000) only [go_sem]
 repeat with_reducible refine zAb ?_
 exact zAd rfl trivial (.inr rfl)
end Go.Hx
end

section
set_option maxRecDepth 100000
set_option linter.unusedSimpArgs false
set_option maxHeartbeats 2000000
namespace Go.Hx
open Go.Proofs
variable [Glob]
attribute [local go_sem] zAu zAr zAs zAk ndV zAo zAj zBc zAJ zAO zAI
attribute [local go_sem] reduceCtorEq Nat.reduceAdd Nat.reduceEqDiff reduceIte Nat.reduceLeDiff Nat.reduceLT Nat.reduceSub
theorem zXs (l : List Int) (h : l.length ≤ 1000000) : Contract Tryz.prog zCY [.val (.one (.sl 1 (zCr l)))] { res := .own zHt 1 (zCr l) } := by
 refine mkA zKp (base := 0) (fo rfl) (fun hfit => ?_)
 unfold F0 zFh
 simp (maxSteps := 2000000) only [zAD, List.set_cons_succ, List.set_cons_zero, List.map_cons, List.map_nil, zAB, zAa, ioOf, List.length_cons, List.length_nil, Nat.reduceAdd, Nat.reduceSub, List.replicate, List.cons_append, List.nil_append]
 try simp (maxSteps := 2000000) only [go_sem]
 repeat with_reducible refine zAb ?_
 intro b hb
 refine zAc (by rfl) trivial (fun h1 => ?_) (fun h1 => ?_)
 ·try simp (maxSteps := 2000000) only [go_sem]
  repeat with_reducible refine zAb ?_
  have : zCr l = [] := by
   cases hl : zCr l with
   | nil => rfl
   | cons x y => have := hb (by rw [hl]; simp); rw [this] at h1; cases h1
  rw [this]
  exact zOV rfl
 ·try simp (maxSteps := 2000000) only [go_sem]
  repeat with_reducible refine zAb ?_
  exact zOV rfl
theorem zXt (a b : List Int) : Contract Tryz.prog zCZ [.val (.one (.sl 1 (zCr a))), .val (.one (.sl 1 (zCr b)))] { res := .val (bv (a == b)) } := by
 refine mkA zKA (base := 0) (fo rfl) (fun hfit => ?_)
 unfold F0 zFi
 simp (maxSteps := 2000000) only [zAD, List.set_cons_succ, List.set_cons_zero, List.map_cons, List.map_nil, zAB, zAa, ioOf, List.length_cons, List.length_nil, Nat.reduceAdd, Nat.reduceSub, List.replicate, List.cons_append, List.nil_append]
 try simp (maxSteps := 2000000) only [go_sem]
 repeat with_reducible refine zAb ?_
 have ha := zD3 (k := 1) hfit.1
 rw [zAk] at ha
 refine zAc (by rfl) trivial (fun h1 => ?_) (fun h1 => ?_)
 ·try simp (maxSteps := 2000000) only [go_sem]
  repeat with_reducible refine zAb ?_
  refine zAd rfl trivial (.inl ?_)
  congr 3
  have : a ≠ b := by rintro rfl; simp at h1
  simp [this]
 have hl : a.length = b.length := by simp at h1; omega
 try simp (maxSteps := 2000000) only [go_sem]
 repeat with_reducible refine zAb ?_
 refine zAv (fun i : Nat => [(13, .pv (iv i)), (4, .un), (5, .un), (14, .un), (24, .un)]) (fun i : Nat => a.length - i) (fun i : Nat => i ≤ a.length ∧ (a.drop i == b.drop i) = (a == b)) (0) ?_ ⟨Nat.zero_le _, rfl⟩ ?_
 focus (simp (maxSteps := 2000000) only [go_sem, zAf, zAn, zAz, zAg]; all_goals (repeat' (first | exact trivial | exact zAl (by omega) | exact zAh rfl | exact zAw rfl | exact zAp | exact le_refl _ | refine And.intro ?_ ?_)))
 rintro i ⟨hi, hinv⟩
 try simp (maxSteps := 2000000) only [go_sem]
 repeat with_reducible refine zAb ?_
 refine zAc (by rfl) trivial (fun h2 => ?_) (fun h2 => ?_)
 ·have hil : i < a.length := by simp at h2; omega
  have hib : i < b.length := by omega
  rw [zA7 (d := 0) hil, zA7 (d := 0) hib] at hinv
  have e1 := zFD a i hil
  have e2 := zFD b i hib
  try simp (maxSteps := 2000000) only [go_sem, e1, e2]
  repeat with_reducible refine zAb ?_
  refine zAc (by rfl) trivial (fun h3 => ?_) (fun h3 => ?_)
  ·try simp (maxSteps := 2000000) only [go_sem]
   repeat with_reducible refine zAb ?_
   refine zAd rfl trivial (.inl ?_)
   congr 3
   rw [← hinv]
   have : (a.getD i 0 == b.getD i 0) = false := by
    have h4 : a.getD i 0 ≠ b.getD i 0 := by simpa using h3
    exact beq_false_of_ne h4
   simp only [List.cons_beq_cons, this, Bool.false_and]
  ·have h4 : a.getD i 0 = b.getD i 0 := by simpa using h3
   rw [h4] at hinv
   simp only [List.cons_beq_cons, beq_self_eq_true, Bool.true_and] at hinv
   try simp (maxSteps := 2000000) only [go_sem]
   repeat with_reducible refine zAb ?_
   refine ⟨i + 1, by omega, ⟨by omega, hinv⟩, ?_⟩
   simp (maxSteps := 2000000) only [go_sem, zAf, zAn, zAz, zAg]
   all_goals (repeat' (first | exact trivial | exact zAl (by omega) | exact zAh rfl | exact zAw rfl | exact zAp | exact le_refl _ | refine And.intro ?_ ?_))
 ·have hil : i = a.length := by simp at h2; omega
  try simp (maxSteps := 2000000) only [go_sem]
  repeat with_reducible refine zAb ?_
  refine zAd rfl trivial (.inl ?_)
  congr 3
  rw [← hinv, hil, List.drop_length, hl, List.drop_length]
  rfl
theorem zRn (f : Nat) (a b : List Pt) (h : ∀ i, i < a.length → i < b.length → Contract Tryz.prog f [.val (.agg [.sl 2 (zL5 (a.getD i default).steps), .sl 1 (zCr (a.getD i default).links)]), .val (.agg [.sl 2 (zL5 (b.getD i default).steps), .sl 1 (zCr (b.getD i default).links)])] { res := .val (bv (zCi (a.getD i default) (b.getD i default))) }) :
  Contract Tryz.prog zBj [.val (.one (.sl 2 (zC5 a))), .val (.one (.sl 2 (zC5 b))), .val (.one (.clo f []))] { res := .val (bv (zBk a b)) } := by
 refine mkA zGq (base := 0) (fo rfl) (fun hfit => ?_)
 unfold F0 zDs
 simp (maxSteps := 2000000) only [zAD, List.set_cons_succ, List.set_cons_zero, List.map_cons, List.map_nil, zAB, zAa, ioOf, List.length_cons, List.length_nil, Nat.reduceAdd, Nat.reduceSub, List.replicate, List.cons_append, List.nil_append]
 try simp (maxSteps := 2000000) only [go_sem]
 repeat with_reducible refine zAb ?_
 have ha := zD3 (k := 2) hfit.1
 rw [zAJ] at ha
 refine zAc (by rfl) trivial (fun h1 => ?_) (fun h1 => ?_)
 ·try simp (maxSteps := 2000000) only [go_sem]
  repeat with_reducible refine zAb ?_
  refine zAd rfl trivial (.inl ?_)
  congr 3
  have : a.length ≠ b.length := by simp at h1; omega
  rw [zRl this]
 have hl : a.length = b.length := by simp at h1; omega
 try simp (maxSteps := 2000000) only [go_sem]
 repeat with_reducible refine zAb ?_
 refine zAv (fun i : Nat => [(17, .pv (iv i)), (6, .un), (7, .un), (8, .un), (9, .un), (18, .un), (30, .un), (32, .un), (33, .un), (34, .un), (35, .un)]) (fun i : Nat => a.length - i) (fun i : Nat => i ≤ a.length ∧ zBk (a.drop i) (b.drop i) = zBk a b) (0) ?_ ⟨Nat.zero_le _, rfl⟩ ?_
 focus (simp (maxSteps := 2000000) only [go_sem, zAf, zAn, zAz, zAg]; all_goals (repeat' (first | exact trivial | exact zAl (by omega) | exact zAh rfl | exact zAw rfl | exact zAp | exact le_refl _ | refine And.intro ?_ ?_)))
 rintro i ⟨hi, hinv⟩
 try simp (maxSteps := 2000000) only [go_sem]
 repeat with_reducible refine zAb ?_
 refine zAc (by rfl) trivial (fun h2 => ?_) (fun h2 => ?_)
 ·have hil : i < a.length := by simp at h2; omega
  have hib : i < b.length := by omega
  rw [zA7 (d := default) hil, zA7 (d := default) hib, zBk] at hinv
  have e1 := zDN a i hil
  have e2 := zDN b i hib
  rw [zBp] at e1 e2
  have hc := h i hil hib
  try simp (maxSteps := 2000000) only [go_sem, e1, e2]
  repeat with_reducible refine zAb ?_
  refine zBT (by rfl) trivial (by repeat' constructor) (hc) ?_
  try simp (maxSteps := 2000000) only [go_sem]
  repeat with_reducible refine zAb ?_
  refine zAc (by rfl) trivial (fun h3 => ?_) (fun h3 => ?_)
  ·try simp (maxSteps := 2000000) only [go_sem]
   repeat with_reducible refine zAb ?_
   refine zAd rfl trivial (.inl ?_)
   congr 3
   rw [← hinv]
   have h4 : zCi (a.getD i default) (b.getD i default) = false := by simpa using h3
   rw [h4]; rfl
  ·have h4 : zCi (a.getD i default) (b.getD i default) = true := by simpa using h3
   rw [h4, Bool.true_and] at hinv
   try simp (maxSteps := 2000000) only [go_sem]
   repeat with_reducible refine zAb ?_
   refine ⟨i + 1, by omega, ⟨by omega, hinv⟩, ?_⟩
   simp (maxSteps := 2000000) only [go_sem, zAf, zAn, zAz, zAg]
   all_goals (repeat' (first | exact trivial | exact zAl (by omega) | exact zAh rfl | exact zAw rfl | exact zAp | exact le_refl _ | refine And.intro ?_ ?_))
 ·have hil : i = a.length := by simp at h2; omega
  try simp (maxSteps := 2000000) only [go_sem]
  repeat with_reducible refine zAb ?_
  refine zAd rfl trivial (.inl ?_)
  congr 3
  rw [← hinv, hil, List.drop_length, hl, List.drop_length]
  simp only [zBk]
theorem zZI (f : Nat) (a b : List St) (h : ∀ i, i < a.length → i < b.length → Contract Tryz.prog f [.val (.agg [bS (a.getD i default).tag, .sl 6 (zDG (a.getD i default).tests)]), .val (.agg [bS (b.getD i default).tag, .sl 6 (zDG (b.getD i default).tests)])] { res := .val (bv (zMH (a.getD i default) (b.getD i default))) }) :
  Contract Tryz.prog zB0 [.val (.one (.sl 2 (zL5 a))), .val (.one (.sl 2 (zL5 b))), .val (.one (.clo f []))] { res := .val (bv (zC4 a b)) } := by
 refine mkA zGB (base := 0) (fo rfl) (fun hfit => ?_)
 unfold F0 zDt
 simp (maxSteps := 2000000) only [zAD, List.set_cons_succ, List.set_cons_zero, List.map_cons, List.map_nil, zAB, zAa, ioOf, List.length_cons, List.length_nil, Nat.reduceAdd, Nat.reduceSub, List.replicate, List.cons_append, List.nil_append]
 try simp (maxSteps := 2000000) only [go_sem]
 repeat with_reducible refine zAb ?_
 have ha := zD3 (k := 2) hfit.1
 rw [zAO] at ha
 refine zAc (by rfl) trivial (fun h1 => ?_) (fun h1 => ?_)
 ·try simp (maxSteps := 2000000) only [go_sem]
  repeat with_reducible refine zAb ?_
  refine zAd rfl trivial (.inl ?_)
  congr 3
  have : a.length ≠ b.length := by simp at h1; omega
  rw [zRk this]
 have hl : a.length = b.length := by simp at h1; omega
 try simp (maxSteps := 2000000) only [go_sem]
 repeat with_reducible refine zAb ?_
 refine zAv (fun i : Nat => [(17, .pv (iv i)), (6, .un), (7, .un), (8, .un), (9, .un), (18, .un), (30, .un), (32, .un), (33, .un), (34, .un), (35, .un)]) (fun i : Nat => a.length - i) (fun i : Nat => i ≤ a.length ∧ zC4 (a.drop i) (b.drop i) = zC4 a b) (0) ?_ ⟨Nat.zero_le _, rfl⟩ ?_
 focus (simp (maxSteps := 2000000) only [go_sem, zAf, zAn, zAz, zAg]; all_goals (repeat' (first | exact trivial | exact zAl (by omega) | exact zAh rfl | exact zAw rfl | exact zAp | exact le_refl _ | refine And.intro ?_ ?_)))
 rintro i ⟨hi, hinv⟩
 try simp (maxSteps := 2000000) only [go_sem]
 repeat with_reducible refine zAb ?_
 refine zAc (by rfl) trivial (fun h2 => ?_) (fun h2 => ?_)
 ·have hil : i < a.length := by simp at h2; omega
  have hib : i < b.length := by omega
  rw [zA7 (d := default) hil, zA7 (d := default) hib, zC4] at hinv
  have e1 := zEh a i hil
  have e2 := zEh b i hib
  rw [zCk] at e1 e2
  have hc := h i hil hib
  try simp (maxSteps := 2000000) only [go_sem, e1, e2]
  repeat with_reducible refine zAb ?_
  refine zBT (by rfl) trivial (by repeat' constructor) (hc) ?_
  try simp (maxSteps := 2000000) only [go_sem]
  repeat with_reducible refine zAb ?_
  refine zAc (by rfl) trivial (fun h3 => ?_) (fun h3 => ?_)
  ·try simp (maxSteps := 2000000) only [go_sem]
   repeat with_reducible refine zAb ?_
   refine zAd rfl trivial (.inl ?_)
   congr 3
   rw [← hinv]
   have h4 : zMH (a.getD i default) (b.getD i default) = false := by simpa using h3
   rw [h4]; rfl
  ·have h4 : zMH (a.getD i default) (b.getD i default) = true := by simpa using h3
   rw [h4, Bool.true_and] at hinv
   try simp (maxSteps := 2000000) only [go_sem]
   repeat with_reducible refine zAb ?_
   refine ⟨i + 1, by omega, ⟨by omega, hinv⟩, ?_⟩
   simp (maxSteps := 2000000) only [go_sem, zAf, zAn, zAz, zAg]
   all_goals (repeat' (first | exact trivial | exact zAl (by omega) | exact zAh rfl | exact zAw rfl | exact zAp | exact le_refl _ | refine And.intro ?_ ?_))
 ·have hil : i = a.length := by simp at h2; omega
  try simp (maxSteps := 2000000) only [go_sem]
  repeat with_reducible refine zAb ?_
  refine zAd rfl trivial (.inl ?_)
  congr 3
  rw [← hinv, hil, List.drop_length, hl, List.drop_length]
  simp only [zC4]
theorem zZJ (f : Nat) (a b : List Ts) (h : ∀ i, i < a.length → i < b.length → Contract Tryz.prog f [.val (.agg [bI (a.getD i default).kind, bS (a.getD i default).name, bS (a.getD i default).value, bI (a.getD i default).na, bI (a.getD i default).nb, .sl 2 (zC5 (a.getD i default).list)]), .val (.agg [bI (b.getD i default).kind, bS (b.getD i default).name, bS (b.getD i default).value, bI (b.getD i default).na, bI (b.getD i default).nb, .sl 2 (zC5 (b.getD i default).list)])] { res := .val (bv (zDx (a.getD i default) (b.getD i default))) }) :
  Contract Tryz.prog zB1 [.val (.one (.sl 6 (zDG a))), .val (.one (.sl 6 (zDG b))), .val (.one (.clo f []))] { res := .val (bv (zC3 a b)) } := by
 refine mkA zGM (base := 0) (fo rfl) (fun hfit => ?_)
 unfold F0 zDu
 simp (maxSteps := 2000000) only [zAD, List.set_cons_succ, List.set_cons_zero, List.map_cons, List.map_nil, zAB, zAa, ioOf, List.length_cons, List.length_nil, Nat.reduceAdd, Nat.reduceSub, List.replicate, List.cons_append, List.nil_append]
 try simp (maxSteps := 2000000) only [go_sem]
 repeat with_reducible refine zAb ?_
 have ha := zD3 (k := 6) hfit.1
 rw [zAI] at ha
 refine zAc (by rfl) trivial (fun h1 => ?_) (fun h1 => ?_)
 ·try simp (maxSteps := 2000000) only [go_sem]
  repeat with_reducible refine zAb ?_
  refine zAd rfl trivial (.inl ?_)
  congr 3
  have : a.length ≠ b.length := by simp at h1; omega
  rw [zRj this]
 have hl : a.length = b.length := by simp at h1; omega
 try simp (maxSteps := 2000000) only [go_sem]
 repeat with_reducible refine zAb ?_
 refine zAv (fun i : Nat => [(17, .pv (iv i)), (6, .un), (7, .un), (8, .un), (9, .un), (18, .un), (30, .un), (32, .un), (33, .un), (34, .un), (35, .un), (36, .un), (37, .un), (38, .un), (39, .un), (40, .un), (41, .un), (42, .un), (43, .un)]) (fun i : Nat => a.length - i) (fun i : Nat => i ≤ a.length ∧ zC3 (a.drop i) (b.drop i) = zC3 a b) (0) ?_ ⟨Nat.zero_le _, rfl⟩ ?_
 focus (simp (maxSteps := 2000000) only [go_sem, zAf, zAn, zAz, zAg]; all_goals (repeat' (first | exact trivial | exact zAl (by omega) | exact zAh rfl | exact zAw rfl | exact zAp | exact le_refl _ | refine And.intro ?_ ?_)))
 rintro i ⟨hi, hinv⟩
 try simp (maxSteps := 2000000) only [go_sem]
 repeat with_reducible refine zAb ?_
 refine zAc (by rfl) trivial (fun h2 => ?_) (fun h2 => ?_)
 ·have hil : i < a.length := by simp at h2; omega
  have hib : i < b.length := by omega
  rw [zA7 (d := default) hil, zA7 (d := default) hib, zC3] at hinv
  have e1 := zEg a i hil
  have e2 := zEg b i hib
  rw [zBh] at e1 e2
  have hc := h i hil hib
  try simp (maxSteps := 2000000) only [go_sem, e1, e2]
  repeat with_reducible refine zAb ?_
  refine zBT (by rfl) trivial (by repeat' constructor) (hc) ?_
  try simp (maxSteps := 2000000) only [go_sem]
  repeat with_reducible refine zAb ?_
  refine zAc (by rfl) trivial (fun h3 => ?_) (fun h3 => ?_)
  ·try simp (maxSteps := 2000000) only [go_sem]
   repeat with_reducible refine zAb ?_
   refine zAd rfl trivial (.inl ?_)
   congr 3
   rw [← hinv]
   have h4 : zDx (a.getD i default) (b.getD i default) = false := by simpa using h3
   rw [h4]; rfl
  ·have h4 : zDx (a.getD i default) (b.getD i default) = true := by simpa using h3
   rw [h4, Bool.true_and] at hinv
   try simp (maxSteps := 2000000) only [go_sem]
   repeat with_reducible refine zAb ?_
   refine ⟨i + 1, by omega, ⟨by omega, hinv⟩, ?_⟩
   simp (maxSteps := 2000000) only [go_sem, zAf, zAn, zAz, zAg]
   all_goals (repeat' (first | exact trivial | exact zAl (by omega) | exact zAh rfl | exact zAw rfl | exact zAp | exact le_refl _ | refine And.intro ?_ ?_))
 ·have hil : i = a.length := by simp at h2; omega
  try simp (maxSteps := 2000000) only [go_sem]
  repeat with_reducible refine zAb ?_
  refine zAd rfl trivial (.inl ?_)
  congr 3
  rw [← hinv, hil, List.drop_length, hl, List.drop_length]
  simp only [zC3]
def yEV (P : Go.Program) (N : Nat) : Prop := ∀ a b : Ts, SizeOf.sizeOf a ≤ N → Contract P zA2 [.val (.agg (tsV a)), .val (.agg (tsV b))] { res := .val (bv (zDx a b)) }
theorem zZK {N : Nat} (ih : yEV Tryz.prog N) (s u : St) (hs : SizeOf.sizeOf s ≤ N) : Contract Tryz.prog zBS [.val (.agg (stV s)), .val (.agg (stV u))] { res := .val (bv (zMH s u)) } := by
 rw [zCk, zCk]
 have hc := zZJ zA2 s.tests u.tests (fun i hi hj => by
  have h1 := yAo hi
  have h2 := zKU s
  have := ih (s.tests.getD i default) (u.tests.getD i default) (by omega)
  rwa [zBh, zBh] at this)
 refine mkA zJA (base := 0) (fo rfl) (fun hfit => ?_)
 unfold F0 zEO
 simp (maxSteps := 2000000) only [zAD, List.set_cons_succ, List.set_cons_zero, List.map_cons, List.map_nil, zAB, zAa, ioOf, List.length_cons, List.length_nil, Nat.reduceAdd, Nat.reduceSub, List.replicate, List.cons_append, List.nil_append]
 try simp (maxSteps := 2000000) only [go_sem]
 repeat with_reducible refine zAb ?_
 apply zAy (h2 := fun _ => hc)
 ·(simp (maxSteps := 2000000) only [go_sem]; rfl)
 ·intro h; repeat' (first | exact trivial | exact h | refine And.intro ?_ ?_)
 try simp (maxSteps := 2000000) only [go_sem]
 repeat with_reducible refine zAb ?_
 refine zAd rfl trivial (.inl ?_)
 congr 3
 rw [zTF]
 simp [Bool.cond_false_right]
theorem zRo {N : Nat} (ih : yEV Tryz.prog N) (s u : Pt) (hs : SizeOf.sizeOf s ≤ N) : Contract Tryz.prog zAN [.val (.agg (ptV s)), .val (.agg (ptV u))] { res := .val (bv (zCi s u)) } := by
 rw [zBp, zBp]
 have hc := zZI zBS s.steps u.steps (fun i hi hj => by
  have h1 := yAp hi
  have h2 := zKV s
  have := zZK ih (s.steps.getD i default) (u.steps.getD i default) (by omega)
  rwa [zCk, zCk] at this)
 refine mkA zLJ (base := 0) (fo rfl) (fun hfit => ?_)
 unfold F0 zGf
 simp (maxSteps := 2000000) only [zAD, List.set_cons_succ, List.set_cons_zero, List.map_cons, List.map_nil, zAB, zAa, ioOf, List.length_cons, List.length_nil, Nat.reduceAdd, Nat.reduceSub, List.replicate, List.cons_append, List.nil_append]
 try simp (maxSteps := 2000000) only [go_sem]
 repeat with_reducible refine zAb ?_
 refine zAt (by repeat' constructor) (zXt s.links u.links) ?_
 try simp (maxSteps := 2000000) only [go_sem]
 repeat with_reducible refine zAb ?_
 apply zAy (h2 := fun _ => hc)
 ·(simp (maxSteps := 2000000) only [go_sem]; rfl)
 ·intro h; repeat' (first | exact trivial | exact h | refine And.intro ?_ ?_)
 try simp (maxSteps := 2000000) only [go_sem]
 repeat with_reducible refine zAb ?_
 refine zAd rfl trivial (.inl ?_)
 congr 3
 rw [zTG]
 simp [Bool.cond_false_right]
theorem zV1 (s : Ts) : 0 < SizeOf.sizeOf s := by cases s; simp only [Ts.mk.sizeOf_spec]; omega
theorem zPB : ∀ N, yEV Tryz.prog N
 | 0 => fun a b h => by have := zV1 a; omega
 | N + 1 => fun a b h => by
  have ih := zPB N
  rw [zBh, zBh]
  have hc := zRn zAN a.list b.list (fun i hi hj => by
   have h1 := yAq hi
   have h2 := zOX a
   have := zRo ih (a.list.getD i default) (b.list.getD i default) (by omega)
   rwa [zBp, zBp] at this)
  refine mkA zLG (base := 0) (fo rfl) (fun hfit => ?_)
  unfold F0 zGe
  simp (maxSteps := 2000000) only [zAD, List.set_cons_succ, List.set_cons_zero, List.map_cons, List.map_nil, zAB, zAa, ioOf, List.length_cons, List.length_nil, Nat.reduceAdd, Nat.reduceSub, List.replicate, List.cons_append, List.nil_append]
  try simp (maxSteps := 2000000) only [go_sem]
  repeat with_reducible refine zAb ?_
  apply zAy (h2 := fun _ => hc)
  ·(simp (maxSteps := 2000000) only [go_sem]; rfl)
  ·intro h; repeat' (first | exact trivial | exact h | refine And.intro ?_ ?_)
  try simp (maxSteps := 2000000) only [go_sem]
  repeat with_reducible refine zAb ?_
  refine zAd rfl trivial (.inl ?_)
  congr 3
  rw [zYo]
  simp [Bool.cond_false_right, Bool.and_assoc]
theorem zXu (a b : Ts) : Contract Tryz.prog zA2 [.val (.agg (tsV a)), .val (.agg (tsV b))] { res := .val (bv (zDx a b)) } := zPB _ a b (Nat.le_refl _)
theorem zPC (a b : Pt) : Contract Tryz.prog zAN [.val (.agg (ptV a)), .val (.agg (ptV b))] { res := .val (bv (zCi a b)) } := zRo (zPB _) a b (Nat.le_refl _)
end Go.Hx
end

section
set_option maxRecDepth 100000
set_option linter.unusedSimpArgs false
set_option maxHeartbeats 2000000
namespace Go.Hx
open Go.Proofs
variable [Glob]
attribute [local go_sem] zAu zAr zAs zAk ndV zAo zAj zBc zAJ zAO zAI List.getD_nil List.take_nil List.headD_nil List.headD_cons List.getD_cons_zero List.length_cons List.drop_zero List.take_succ_cons List.take_zero List.map_nil List.map_cons
attribute [local go_sem] reduceCtorEq Nat.reduceAdd Nat.reduceEqDiff reduceIte Nat.reduceLeDiff Nat.reduceLT Nat.reduceSub
theorem yIB : (((0 : Nat) : Int) != 1) = true := rfl
attribute [local go_sem] yIB
theorem yIC : (((1 : Nat) : Int) != 1) = false := rfl
attribute [local go_sem] yIC
theorem yID (n : Nat) : (((n + 1 + 1 : Nat) : Int) != 1) = true := by simp; omega
attribute [local go_sem] yID
theorem zTI : Int.toNat 0 = 0 := rfl
attribute [local go_sem] zTI
theorem zXv (g : Nat) (x y : Pt) (b : Bool) (h : Contract Tryz.prog g [.val (.agg (ptV x)), .val (.agg (ptV y))] { res := .val (bv b) }) :
  Contract Tryz.prog zA8 [.val (.agg (ptV y)), .val (.one (.fp [.clo g []])), .val (.one (.fp (ptV x)))] { res := .val (bv b) } := by
 rw [zBp, zBp] at h ⊢
 refine mkA zEW (base := 0) (fo rfl) (fun hfit => ?_)
 unfold F0 zCL
 simp (maxSteps := 2000000) only [zAD, List.set_cons_succ, List.set_cons_zero, List.map_cons, List.map_nil, zAB, zAa, ioOf, List.length_cons, List.length_nil, Nat.reduceAdd, Nat.reduceSub, List.replicate, List.cons_append, List.nil_append]
 try simp (maxSteps := 2000000) only [go_sem]
 repeat with_reducible refine zAb ?_
 refine zBT (by rfl) trivial (by repeat' constructor) (h) ?_
 try simp (maxSteps := 2000000) only [go_sem]
 repeat with_reducible refine zAb ?_
 exact zAd rfl trivial (.inl rfl)
theorem zTJ (g : Nat) (l : List Pt) (hl : l.length ≤ 1000000) (h : ∀ x y, Contract Tryz.prog g [.val (.agg (ptV x)), .val (.agg (ptV y))] { res := .val (bv (zCi x y)) }) :
  Contract Tryz.prog zBY [.val (.one (.sl 2 (zC5 l))), .val (.one (.clo g []))] { res := .own zBA 2 (zC5 (zBq zCi l)) } := by
 refine mkA zGW (base := 0) (fo rfl) (fun hfit => ?_)
 unfold F0 zDv
 simp (maxSteps := 2000000) only [zAD, List.set_cons_succ, List.set_cons_zero, List.map_cons, List.map_nil, zAB, zAa, ioOf, List.length_cons, List.length_nil, Nat.reduceAdd, Nat.reduceSub, List.replicate, List.cons_append, List.nil_append]
 try simp (maxSteps := 2000000) only [go_sem]
 repeat with_reducible refine zAb ?_
 refine zAv (fun i : Nat => [(10, .pv (iv i)), (5, .own zBA 2 (zC5 (zBq zCi (l.take i)))), (7, .un), (11, .un), (17, .un)]) (fun i : Nat => l.length - i) (fun i : Nat => i ≤ l.length) (0) ?_ (Nat.zero_le _) ?_
 focus (simp (maxSteps := 2000000) only [go_sem, zAf, zAn, zAz, zAg]; all_goals (repeat' (first | exact trivial | exact zAl (by omega) | exact zAh rfl | exact zAw rfl | exact zAp | exact le_refl _ | refine And.intro ?_ ?_)))
 rintro i hi
 try simp (maxSteps := 2000000) only [go_sem]
 repeat with_reducible refine zAb ?_
 refine zAc (by rfl) trivial (fun h2 => ?_) (fun h2 => ?_)
 ·have hil : i < l.length := by simp at h2; omega
  obtain ⟨x, hx⟩ : ∃ x, x = l.getD i default := ⟨_, rfl⟩
  have e1 := zDN l i hil
  rw [← hx, zBp] at e1
  have hfl := zDM zCi (l.take i)
  rw [List.length_take] at hfl
  have htk := zPw zCi l i hil
  have hx2 : l[i] = x := by rw [hx]; simp [hil]
  rw [hx2] at htk
  try simp (maxSteps := 2000000) only [go_sem, e1]
  repeat with_reducible refine zAb ?_
  have hc := zPj zA8 [.fp [.clo g []], .fp (ptV x)] (zBq zCi (l.take i)) (fun y => zCi x y) (fun j hj => by
   have := zXv g x ((zBq zCi (l.take i)).getD j default) _ (h _ _)
   rw [zBp ((zBq zCi (l.take i)).getD j default)] at this
   exact this)
  rw [zBp x] at hc
  refine zAt (by repeat' constructor) (hc) ?_
  try simp (maxSteps := 2000000) only [go_sem]
  repeat with_reducible refine zAb ?_
  refine zAc (by rfl) trivial (fun h3 => ?_) (fun h3 => ?_)
  ·try simp (maxSteps := 2000000) only [go_sem]
   repeat with_reducible refine zAb ?_
   refine ⟨i + 1, by omega, by omega, ?_⟩
   simp (maxSteps := 2000000) only [go_sem, zAf, zAn, zAz, zAg]
   all_goals (repeat' (first | exact trivial | exact zAl (by omega) | exact zAh rfl | exact zAw rfl | exact zAp | exact le_refl _ | refine And.intro ?_ ?_))
   refine zDR ?_
   rw [htk, zBD, if_neg (by simpa using h3), zYj]
   simp only [zC5, zBp]
  ·try simp (maxSteps := 2000000) only [go_sem]
   repeat with_reducible refine zAb ?_
   refine ⟨i + 1, by omega, by omega, ?_⟩
   simp (maxSteps := 2000000) only [go_sem, zAf, zAn, zAz, zAg]
   all_goals (repeat' (first | exact trivial | exact zAl (by omega) | exact zAh rfl | exact zAw rfl | exact zAp | exact le_refl _ | refine And.intro ?_ ?_))
   refine zDR ?_
   rw [htk, zBD, if_pos (by simpa using h3)]
 ·have hil : i = l.length := by simp at h2; omega
  try simp (maxSteps := 2000000) only [go_sem]
  repeat with_reducible refine zAb ?_
  rw [hil, List.take_length]
  exact zOV rfl
theorem zXw (g : Nat) (x y : Ts) (b : Bool) (h : Contract Tryz.prog g [.val (.agg (tsV x)), .val (.agg (tsV y))] { res := .val (bv b) }) :
  Contract Tryz.prog zA9 [.val (.agg (tsV y)), .val (.one (.fp [.clo g []])), .val (.one (.fp (tsV x)))] { res := .val (bv b) } := by
 rw [zBh, zBh] at h ⊢
 refine mkA zEZ (base := 0) (fo rfl) (fun hfit => ?_)
 unfold F0 zCM
 simp (maxSteps := 2000000) only [zAD, List.set_cons_succ, List.set_cons_zero, List.map_cons, List.map_nil, zAB, zAa, ioOf, List.length_cons, List.length_nil, Nat.reduceAdd, Nat.reduceSub, List.replicate, List.cons_append, List.nil_append]
 try simp (maxSteps := 2000000) only [go_sem]
 repeat with_reducible refine zAb ?_
 refine zBT (by rfl) trivial (by repeat' constructor) (h) ?_
 try simp (maxSteps := 2000000) only [go_sem]
 repeat with_reducible refine zAb ?_
 exact zAd rfl trivial (.inl rfl)
theorem zTK (g : Nat) (l : List Ts) (hl : l.length ≤ 1000000) (h : ∀ x y, Contract Tryz.prog g [.val (.agg (tsV x)), .val (.agg (tsV y))] { res := .val (bv (zDx x y)) }) :
  Contract Tryz.prog zBZ [.val (.one (.sl 6 (zDG l))), .val (.one (.clo g []))] { res := .own zA3 6 (zDG (zBq zDx l)) } := by
 refine mkA zG6 (base := 0) (fo rfl) (fun hfit => ?_)
 unfold F0 zDw
 simp (maxSteps := 2000000) only [zAD, List.set_cons_succ, List.set_cons_zero, List.map_cons, List.map_nil, zAB, zAa, ioOf, List.length_cons, List.length_nil, Nat.reduceAdd, Nat.reduceSub, List.replicate, List.cons_append, List.nil_append]
 try simp (maxSteps := 2000000) only [go_sem]
 repeat with_reducible refine zAb ?_
 refine zAv (fun i : Nat => [(10, .pv (iv i)), (5, .own zA3 6 (zDG (zBq zDx (l.take i)))), (7, .un), (11, .un), (17, .un)]) (fun i : Nat => l.length - i) (fun i : Nat => i ≤ l.length) (0) ?_ (Nat.zero_le _) ?_
 focus (simp (maxSteps := 2000000) only [go_sem, zAf, zAn, zAz, zAg]; all_goals (repeat' (first | exact trivial | exact zAl (by omega) | exact zAh rfl | exact zAw rfl | exact zAp | exact le_refl _ | refine And.intro ?_ ?_)))
 rintro i hi
 try simp (maxSteps := 2000000) only [go_sem]
 repeat with_reducible refine zAb ?_
 refine zAc (by rfl) trivial (fun h2 => ?_) (fun h2 => ?_)
 ·have hil : i < l.length := by simp at h2; omega
  obtain ⟨x, hx⟩ : ∃ x, x = l.getD i default := ⟨_, rfl⟩
  have e1 := zEg l i hil
  rw [← hx, zBh] at e1
  have hfl := zDM zDx (l.take i)
  rw [List.length_take] at hfl
  have htk := zPw zDx l i hil
  have hx2 : l[i] = x := by rw [hx]; simp [hil]
  rw [hx2] at htk
  try simp (maxSteps := 2000000) only [go_sem, e1]
  repeat with_reducible refine zAb ?_
  have hc := zPk zA9 [.fp [.clo g []], .fp (tsV x)] (zBq zDx (l.take i)) (fun y => zDx x y) (fun j hj => by
   have := zXw g x ((zBq zDx (l.take i)).getD j default) _ (h _ _)
   rw [zBh ((zBq zDx (l.take i)).getD j default)] at this
   exact this)
  rw [zBh x] at hc
  refine zAt (by repeat' constructor) (hc) ?_
  try simp (maxSteps := 2000000) only [go_sem]
  repeat with_reducible refine zAb ?_
  refine zAc (by rfl) trivial (fun h3 => ?_) (fun h3 => ?_)
  ·try simp (maxSteps := 2000000) only [go_sem]
   repeat with_reducible refine zAb ?_
   refine ⟨i + 1, by omega, by omega, ?_⟩
   simp (maxSteps := 2000000) only [go_sem, zAf, zAn, zAz, zAg]
   all_goals (repeat' (first | exact trivial | exact zAl (by omega) | exact zAh rfl | exact zAw rfl | exact zAp | exact le_refl _ | refine And.intro ?_ ?_))
   refine zDR ?_
   rw [htk, zBD, if_neg (by simpa using h3), zDP]
   simp only [zDG, zBh]
  ·try simp (maxSteps := 2000000) only [go_sem]
   repeat with_reducible refine zAb ?_
   refine ⟨i + 1, by omega, by omega, ?_⟩
   simp (maxSteps := 2000000) only [go_sem, zAf, zAn, zAz, zAg]
   all_goals (repeat' (first | exact trivial | exact zAl (by omega) | exact zAh rfl | exact zAw rfl | exact zAp | exact le_refl _ | refine And.intro ?_ ?_))
   refine zDR ?_
   rw [htk, zBD, if_pos (by simpa using h3)]
 ·have hil : i = l.length := by simp at h2; omega
  try simp (maxSteps := 2000000) only [go_sem]
  repeat with_reducible refine zAb ?_
  rw [hil, List.take_length]
  exact zOV rfl
def zV2 (l : List Pt) : PVal := match zG7 l with
 | some x => .one (.fp (stV x))
 | none => .one (.v (.pointer none))
theorem yEW (t : Ts) : Contract Tryz.prog zFq [.val (.agg (tsV t))] { res := .val (zV2 t.list) } := by
 rw [zBh]
 rcases hl : t.list with _ | ⟨p, _ | ⟨q, r⟩⟩
 ·simp only [zC5]
  refine mkA zCN (base := 0) (fo rfl) (fun hfit => ?_)
  unfold F0 zCy
  simp (maxSteps := 2000000) only [zAD, List.set_cons_succ, List.set_cons_zero, List.map_cons, List.map_nil, zAB, zAa, ioOf, List.length_cons, List.length_nil, Nat.reduceAdd, Nat.reduceSub, List.replicate, List.cons_append, List.nil_append]
  try simp (maxSteps := 2000000) only [go_sem]
  repeat with_reducible refine zAb ?_
  refine zOT (by rfl) trivial ?_
  try simp (maxSteps := 2000000) only [go_sem]
  repeat with_reducible refine zAb ?_
  exact zAd rfl trivial (.inl rfl)
 ·simp only [zC5, zBp]
  rcases hs : p.steps with _ | ⟨x, _ | ⟨y, r⟩⟩
  ·simp only [zL5]
   refine mkA zCN (base := 0) (fo rfl) (fun hfit => ?_)
   unfold F0 zCy
   simp (maxSteps := 2000000) only [zAD, List.set_cons_succ, List.set_cons_zero, List.map_cons, List.map_nil, zAB, zAa, ioOf, List.length_cons, List.length_nil, Nat.reduceAdd, Nat.reduceSub, List.replicate, List.cons_append, List.nil_append]
   try simp (maxSteps := 2000000) only [go_sem]
   repeat with_reducible refine zAb ?_
   refine zOT (by rfl) trivial ?_
   try simp (maxSteps := 2000000) only [go_sem]
   repeat with_reducible refine zAb ?_
   refine zAd rfl trivial (.inl ?_)
   simp only [zV2, zG7, hs]
  ·simp only [zL5]
   refine mkA zCN (base := 0) (fo rfl) (fun hfit => ?_)
   unfold F0 zCy
   simp (maxSteps := 2000000) only [zAD, List.set_cons_succ, List.set_cons_zero, List.map_cons, List.map_nil, zAB, zAa, ioOf, List.length_cons, List.length_nil, Nat.reduceAdd, Nat.reduceSub, List.replicate, List.cons_append, List.nil_append]
   try simp (maxSteps := 2000000) only [go_sem]
   repeat with_reducible refine zAb ?_
   refine zUd (by rfl) trivial ?_
   try simp (maxSteps := 2000000) only [go_sem]
   repeat with_reducible refine zAb ?_
   refine zAd rfl trivial (.inl ?_)
   simp only [zV2, zG7, hs]
  ·simp only [zL5]
   refine mkA zCN (base := 0) (fo rfl) (fun hfit => ?_)
   unfold F0 zCy
   simp (maxSteps := 2000000) only [zAD, List.set_cons_succ, List.set_cons_zero, List.map_cons, List.map_nil, zAB, zAa, ioOf, List.length_cons, List.length_nil, Nat.reduceAdd, Nat.reduceSub, List.replicate, List.cons_append, List.nil_append]
   try simp (maxSteps := 2000000) only [go_sem]
   repeat with_reducible refine zAb ?_
   refine zOT (by rfl) trivial ?_
   try simp (maxSteps := 2000000) only [go_sem]
   repeat with_reducible refine zAb ?_
   refine zAd rfl trivial (.inl ?_)
   simp only [zV2, zG7, hs]
 ·simp only [zC5, zBp p]
  refine mkA zCN (base := 0) (fo rfl) (fun hfit => ?_)
  unfold F0 zCy
  simp (maxSteps := 2000000) only [zAD, List.set_cons_succ, List.set_cons_zero, List.map_cons, List.map_nil, zAB, zAa, ioOf, List.length_cons, List.length_nil, Nat.reduceAdd, Nat.reduceSub, List.replicate, List.cons_append, List.nil_append]
  try simp (maxSteps := 2000000) only [go_sem]
  repeat with_reducible refine zAb ?_
  refine zOT (by rfl) trivial ?_
  try simp (maxSteps := 2000000) only [go_sem]
  repeat with_reducible refine zAb ?_
  exact zAd rfl trivial (.inl rfl)
end Go.Hx
end

section
set_option maxRecDepth 100000
set_option linter.unusedSimpArgs false
set_option maxHeartbeats 40000000
namespace Go.Hx
open Go.Proofs
variable [Glob]
attribute [local go_sem] zAu zAr zAs zAk ndV zAo zAj zBc zAJ zAO zAI List.getD_nil List.take_nil List.headD_nil List.headD_cons List.getD_cons_zero List.length_cons List.length_nil zTI List.drop_zero List.take_succ_cons List.take_zero List.map_nil List.map_cons List.length_drop List.length_take List.take_length
attribute [local go_sem] reduceCtorEq Nat.reduceAdd Nat.reduceEqDiff reduceIte Nat.reduceLeDiff Nat.reduceLT Nat.reduceSub
theorem yGW : (((0 : Nat) : Int) == 1) = false := rfl
attribute [local go_sem] yGW
theorem yGX : (((1 : Nat) : Int) == 1) = true := rfl
attribute [local go_sem] yGX
theorem yGY (n : Nat) : (((n + 1 + 1 : Nat) : Int) == 1) = false := by
 rw [beq_eq_false_iff_ne]; omega
attribute [local go_sem] yGY
theorem yDh (c : Bool) : (bif c then false else false) = false := by cases c <;> rfl
attribute [local go_sem] yDh
theorem zYu (i : Nat) : Int.toNat ((i : Int) + 1) = i + 1 := by omega
attribute [local go_sem] zYu
theorem Ts.list_mk (k : Int) (n v : Bys) (a b : Int) (l : List Pt) : (Ts.mk k n v a b l).list = l := rfl
theorem yCx (l : List Ts) : (zNf l).length = l.length := by simp [zOk]
theorem zZL (o : St) (t : Ts) (r : List Ts) : zCO o (t :: r) = zCO (zDy o t r.length) r := rfl
def yGZ (P : Go.Program) (N : Nat) : Prop := ∀ l : List Pt, SizeOf.sizeOf l ≤ N → shL l = true → Contract P zCx [.val (.one (.sl 2 (zC5 l)))] { res := .own zBA 2 (zC5 (onL l)) }
theorem zYv {s : St} (h : shS s = true) : s.tests.length ≤ 6 ∧ ∀ i, i < s.tests.length → shL (s.tests.getD i default).list = true := by
 rw [yBa] at h
 simp only [Bool.and_eq_true, decide_eq_true_eq] at h
 refine ⟨h.1, fun i hi => ?_⟩
 rw [← zYq]
 exact (zOm _).1 h.2 _ (zDO hi)
theorem zYw {p : Pt} (h : shP p = true) : p.steps.length ≤ 6 ∧ p.links.length ≤ 6 ∧ ∀ i, i < p.steps.length → shS (p.steps.getD i default) = true := by
 rw [yGL] at h
 simp only [Bool.and_eq_true, decide_eq_true_eq] at h
 exact ⟨h.1.1, h.1.2, fun i hi => (zYr _).1 h.2 _ (zDO hi)⟩
theorem zYx {l : List Pt} (h : shL l = true) : l.length ≤ 6 ∧ ∀ i, i < l.length → shP (l.getD i default) = true := by
 unfold shL at h
 simp only [Bool.and_eq_true, decide_eq_true_eq] at h
 exact ⟨h.1, fun i hi => (zOl _).1 h.2 _ (zDO hi)⟩
theorem yBe {l : List Pt} {x : St} (h : shL l = true) (hs : zG7 l = some x) : x.tests.length ≤ 6 := by
 obtain ⟨lk, rfl⟩ := zKB hs
 have h1 := (zYx h).2 0 (by simp)
 have h2 := (zYw h1).2.2 0 (by simp [Pt.steps])
 exact (zYv h2).1
theorem yBf {o : St} {t : Ts} {r : Nat} (hs : zG7 t.list = none) : zDy o t r = .mk o.tag (o.tests ++ [t]) := by
 unfold zDy; simp only [hs]
theorem yCy {o : St} {t u : Ts} {x : St} {r : Nat} (hs : zG7 t.list = some x) (hn : zHy t x = some u) : zDy o t r = .mk o.tag (o.tests ++ [.mk 14 [] [] 0 0 u.list]) := by
 unfold zDy; simp only [hs, hn]
theorem zV3 {o : St} {t : Ts} {x : St} {r : Nat} (hs : zG7 t.list = some x) (hn : zHy t x = none) (hc : t.kind = 14 ∧ (x.tag = [] ∨ o.tag = [] ∨ x.tag = o.tag) ∧ o.tests.length + x.tests.length + r ≤ 6) : zDy o t r = .mk (if o.tag = [] then x.tag else o.tag) (o.tests ++ x.tests) := by
 unfold zDy; simp only [hs, hn]; rw [if_pos hc]
theorem yBg {o : St} {t : Ts} {x : St} {r : Nat} (hs : zG7 t.list = some x) (hn : zHy t x = none) (hc : ¬ (t.kind = 14 ∧ (x.tag = [] ∨ o.tag = [] ∨ x.tag = o.tag) ∧ o.tests.length + x.tests.length + r ≤ 6)) : zDy o t r = .mk o.tag (o.tests ++ [t]) := by
 unfold zDy; simp only [hs, hn]; rw [if_neg hc]
theorem yBh {t u : Ts} {x : St} (h1 : t.kind = 13) (h2 : x.tag = []) (h3 : x.tests = [u]) (h4 : u.kind = 13) : zHy t x = some u := by
 unfold zHy; rw [if_pos ⟨h1, h2⟩, h3]; simp only; rw [if_pos h4]
def nnB (k : Int) (x : St) : Bool := (k == 13) && (x.tag == []) && (match x.tests with | [u] => u.kind == 13 | _ => false)
theorem yCz {t : Ts} {x : St} (h : nnB t.kind x = false) : zHy t x = none := by
 unfold nnB at h
 unfold zHy
 split
 ·rename_i hk
  rw [hk.1, hk.2] at h
  split
  ·rename_i u hu
   rw [hu] at h
   rw [if_neg]
   intro hc
   simp [hc] at h
  ·rfl
 ·rfl
theorem yCA {t : Ts} {x : St} (h : nnB t.kind x = true) : ∃ u, zHy t x = some u ∧ x.tests = [u] := by
 unfold nnB at h
 simp only [Bool.and_eq_true, beq_iff_eq] at h
 obtain ⟨⟨h1, h2⟩, h3⟩ := h
 split at h3
 ·rename_i u hu
  exact ⟨u, yBh h1 h2 hu (by simpa using h3), hu⟩
 ·cases h3
theorem yIE {Q : Exit → List Ct → Prop} {R : HCode} (s o x : St) (i : Nat) (k na nb : Int) (nm vl : Bys) (c2 : List (List PV)) (c14 c24 : Ct)
  (h : ∀ b, b = nnB k x → hwp Tryz.prog R Q [.pv (.agg [bS s.tag, .sl 6 (zDG s.tests)]), .pv (.one (.fp [bS s.tag, .sl 6 (zDG s.tests)])), .ptr 0 0, .ptr 1 0, .pv (iv i), .ptr 2 0, .pv (.one (.fp [bS x.tag, .sl 6 (zDG x.tests)])), .un, .un, .un, .un, .pv (.one (.sl 6 (zDG s.tests))), .pv (iv s.tests.length), .pv (iv i), c14, .un, .un, .un, .un, .un, .un, .un, .un, .un, c24, .un, .un, .pv (bv b), .un, .un, .un, .un, .un, .un, .un, .un, .un, .un, .un, .un, .un, .un, .un, .un, .un, .un, .un, .un, .un, .un, .un, .un, .un, .un, .un, .un, .un, .un, .un, .un, .un, .un, .un, .un, .un, .un, .un, .un, .un, .un, .un, .un, .un, .un, .un, .un, .un, .un, .un, .un, .un, .un, .un, .un, .un, .un, .un, .un, .un, .un, .un, .un, .un, .un, .un, .un, .un, .un, .un, .un, .un, .un, .un, .un, .un, .un, .un, .un, .un, .un, .un, .un, .un, .un, .un, .un, .un, .un, .un, .un, .un, .un, .un, .un, .un, .un, .un, .un, .un, .un, .un, .un, .un, .un, .un, .un, .pv (.one (.v (mkS []))), .pv (.one (.nl 6)), .pv (.one (bS o.tag)), .own zA3 6 (zDG o.tests), .pv (.one (bI k)), .pv (.one (bS nm)), .pv (.one (bS vl)), .pv (.one (bI na)), .pv (.one (bI nb)), .pv (.one (.sl 2 c2))]) :
  hwp Tryz.prog (.seq zLK R) Q [.pv (.agg [bS s.tag, .sl 6 (zDG s.tests)]), .pv (.one (.fp [bS s.tag, .sl 6 (zDG s.tests)])), .ptr 0 0, .ptr 1 0, .pv (iv i), .ptr 2 0, .pv (.one (.fp [bS x.tag, .sl 6 (zDG x.tests)])), .un, .un, .un, .un, .pv (.one (.sl 6 (zDG s.tests))), .pv (iv s.tests.length), .pv (iv i), c14, .un, .un, .un, .un, .un, .un, .un, .un, .un, c24, .un, .un, .un, .un, .un, .un, .un, .un, .un, .un, .un, .un, .un, .un, .un, .un, .un, .un, .un, .un, .un, .un, .un, .un, .un, .un, .un, .un, .un, .un, .un, .un, .un, .un, .un, .un, .un, .un, .un, .un, .un, .un, .un, .un, .un, .un, .un, .un, .un, .un, .un, .un, .un, .un, .un, .un, .un, .un, .un, .un, .un, .un, .un, .un, .un, .un, .un, .un, .un, .un, .un, .un, .un, .un, .un, .un, .un, .un, .un, .un, .un, .un, .un, .un, .un, .un, .un, .un, .un, .un, .un, .un, .un, .un, .un, .un, .un, .un, .un, .un, .un, .un, .un, .un, .un, .un, .un, .un, .un, .un, .un, .pv (.one (.v (mkS []))), .pv (.one (.nl 6)), .pv (.one (bS o.tag)), .own zA3 6 (zDG o.tests), .pv (.one (bI k)), .pv (.one (bS nm)), .pv (.one (bS vl)), .pv (.one (bI na)), .pv (.one (bI nb)), .pv (.one (.sl 2 c2))] := by
 unfold nnB at h
 obtain ⟨xt, xl⟩ := x
 simp only [St.tag_mk, St.tests_mk] at h ⊢
 rcases xl with _ | ⟨u, _ | ⟨v, w⟩⟩
 ·simp only [zDG] at h ⊢
  by_cases hk : k = 13
  ·have e1 : (k == 13) = true := by simp [hk]
   by_cases ha : xt = []
   ·have e2 : (xt == []) = true := by simp [ha]
    try simp (maxSteps := 2000000) only [go_sem, e1, e2, Bool.not_true, Bool.not_false]
    repeat with_reducible refine zAb ?_
    exact h _ (by simp)
   ·have e2 : (xt == []) = false := by simp [ha]
    try simp (maxSteps := 2000000) only [go_sem, e1, e2, Bool.not_true, Bool.not_false]
    repeat with_reducible refine zAb ?_
    exact h _ (by simp)
  ·have e1 : (k == 13) = false := by simp [hk]
   try simp (maxSteps := 2000000) only [go_sem, e1, Bool.not_true, Bool.not_false]
   repeat with_reducible refine zAb ?_
   exact h _ (by simp)
 ·simp only [zDG, zBh u] at h ⊢
  by_cases hk : k = 13
  ·have e1 : (k == 13) = true := by simp [hk]
   by_cases ha : xt = []
   ·have e2 : (xt == []) = true := by simp [ha]
    try simp (maxSteps := 2000000) only [go_sem, e1, e2, Bool.not_true, Bool.not_false]
    repeat with_reducible refine zAb ?_
    exact h _ (by rw [e1, e2]; rfl)
   ·have e2 : (xt == []) = false := by simp [ha]
    try simp (maxSteps := 2000000) only [go_sem, e1, e2, Bool.not_true, Bool.not_false]
    repeat with_reducible refine zAb ?_
    exact h _ (by rw [e1, e2]; rfl)
  ·have e1 : (k == 13) = false := by simp [hk]
   try simp (maxSteps := 2000000) only [go_sem, e1, Bool.not_true, Bool.not_false]
   repeat with_reducible refine zAb ?_
   exact h _ (by rw [e1]; rfl)
 ·simp only [zDG, zBh u] at h ⊢
  by_cases hk : k = 13
  ·have e1 : (k == 13) = true := by simp [hk]
   by_cases ha : xt = []
   ·have e2 : (xt == []) = true := by simp [ha]
    try simp (maxSteps := 2000000) only [go_sem, e1, e2, Bool.not_true, Bool.not_false]
    repeat with_reducible refine zAb ?_
    exact h _ (by simp)
   ·have e2 : (xt == []) = false := by simp [ha]
    try simp (maxSteps := 2000000) only [go_sem, e1, e2, Bool.not_true, Bool.not_false]
    repeat with_reducible refine zAb ?_
    exact h _ (by simp)
  ·have e1 : (k == 13) = false := by simp [hk]
   try simp (maxSteps := 2000000) only [go_sem, e1, Bool.not_true, Bool.not_false]
   repeat with_reducible refine zAb ?_
   exact h _ (by simp)
def yDi (s o : St) (i : Nat) (k : Int) (xt : Bys) (lx : Nat) : Bool := (k == 14) && ((xt == []) || (o.tag == []) || (xt == o.tag)) && decide (o.tests.length + lx + (s.tests.length - (i + 1)) ≤ 6)
theorem yG0 {Q : Exit → List Ct → Prop} {R : HCode} (s o : St) (i : Nat) (hi : i < s.tests.length) (hs6 : s.tests.length ≤ 6) (hol : o.tests.length ≤ 6) (k na nb : Int) (xt nm vl : Bys) (rx c2 : List (List PV)) (hx : rx.length ≤ 6) (c14 c24 c27 : Ct)
  (h : ∀ b, b = yDi s o i k xt rx.length → hwp Tryz.prog R Q [.pv (.agg [bS s.tag, .sl 6 (zDG s.tests)]), .pv (.one (.fp [bS s.tag, .sl 6 (zDG s.tests)])), .ptr 0 0, .ptr 1 0, .pv (iv i), .ptr 2 0, .pv (.one (.fp [bS xt, .sl 6 rx])), .un, .un, .un, .un, .pv (.one (.sl 6 (zDG s.tests))), .pv (iv s.tests.length), .pv (iv i), c14, .un, .un, .un, .un, .un, .un, .un, .un, .un, c24, .un, .un, c27, .un, .un, .un, .un, .un, .un, .un, .un, .un, .un, .un, .un, .un, .un, .un, .un, .un, .un, .un, .un, .un, .un, .un, .un, .un, .un, .un, .un, .un, .un, .un, .un, .un, .un, .un, .un, .pv (bv b), .un, .un, .un, .un, .un, .un, .un, .un, .un, .un, .un, .un, .un, .un, .un, .un, .un, .un, .un, .un, .un, .un, .un, .un, .un, .un, .un, .un, .un, .un, .un, .un, .un, .un, .un, .un, .un, .un, .un, .un, .un, .un, .un, .un, .un, .un, .un, .un, .un, .un, .un, .un, .un, .un, .un, .un, .un, .un, .un, .un, .un, .un, .un, .un, .un, .un, .un, .un, .un, .un, .un, .pv (.one (.v (mkS []))), .pv (.one (.nl 6)), .pv (.one (bS o.tag)), .own zA3 6 (zDG o.tests), .pv (.one (bI k)), .pv (.one (bS nm)), .pv (.one (bS vl)), .pv (.one (bI na)), .pv (.one (bI nb)), .pv (.one (.sl 2 c2))]) :
  hwp Tryz.prog (.seq zJL R) Q [.pv (.agg [bS s.tag, .sl 6 (zDG s.tests)]), .pv (.one (.fp [bS s.tag, .sl 6 (zDG s.tests)])), .ptr 0 0, .ptr 1 0, .pv (iv i), .ptr 2 0, .pv (.one (.fp [bS xt, .sl 6 rx])), .un, .un, .un, .un, .pv (.one (.sl 6 (zDG s.tests))), .pv (iv s.tests.length), .pv (iv i), c14, .un, .un, .un, .un, .un, .un, .un, .un, .un, c24, .un, .un, c27, .un, .un, .un, .un, .un, .un, .un, .un, .un, .un, .un, .un, .un, .un, .un, .un, .un, .un, .un, .un, .un, .un, .un, .un, .un, .un, .un, .un, .un, .un, .un, .un, .un, .un, .un, .un, .un, .un, .un, .un, .un, .un, .un, .un, .un, .un, .un, .un, .un, .un, .un, .un, .un, .un, .un, .un, .un, .un, .un, .un, .un, .un, .un, .un, .un, .un, .un, .un, .un, .un, .un, .un, .un, .un, .un, .un, .un, .un, .un, .un, .un, .un, .un, .un, .un, .un, .un, .un, .un, .un, .un, .un, .un, .un, .un, .un, .un, .un, .un, .un, .un, .un, .un, .un, .un, .un, .un, .un, .pv (.one (.v (mkS []))), .pv (.one (.nl 6)), .pv (.one (bS o.tag)), .own zA3 6 (zDG o.tests), .pv (.one (bI k)), .pv (.one (bS nm)), .pv (.one (bS vl)), .pv (.one (bI na)), .pv (.one (bI nb)), .pv (.one (.sl 2 c2))] := by
 have hfin : ∀ a b c : Nat, decide ((a : Int) + (b : Int) + ((min c c - (i + 1) : Nat) : Int) ≤ 6) = decide (a + b + (c - (i + 1)) ≤ 6) := fun a b c => decide_eq_decide.2 (by omega)
 by_cases hk : k = 14
 ·have e1 : (k == 14) = true := by simp [hk]
  by_cases ha : xt = []
  ·have e2 : (xt == []) = true := by simp [ha]
   try simp (maxSteps := 2000000) only [go_sem, e1, e2, Bool.not_true, Bool.not_false, Nat.min_self]
   repeat with_reducible refine zAb ?_
   refine h _ ?_
   unfold yDi
   rw [e1, e2]
   simp
   omega
  ·have e2 : (xt == []) = false := by simp [ha]
   by_cases hb : o.tag = []
   ·have e3 : (o.tag == []) = true := by simp [hb]
    try simp (maxSteps := 2000000) only [go_sem, e1, e2, e3, Bool.not_true, Bool.not_false, Nat.min_self]
    repeat with_reducible refine zAb ?_
    refine h _ ?_
    unfold yDi
    rw [e1, e2, e3]
    simp
    omega
   ·have e3 : (o.tag == []) = false := by simp [hb]
    by_cases hc : xt = o.tag
    ·have e4 : (xt == o.tag) = true := by simp [hc]
     try simp (maxSteps := 2000000) only [go_sem, e1, e2, e3, e4, Bool.not_true, Bool.not_false, Nat.min_self]
     repeat with_reducible refine zAb ?_
     refine h _ ?_
     unfold yDi
     rw [e1, e2, e3, e4]
     simp
     omega
    ·have e4 : (xt == o.tag) = false := by simp [hc]
     try simp (maxSteps := 2000000) only [go_sem, e1, e2, e3, e4, Bool.not_true, Bool.not_false, Nat.min_self]
     repeat with_reducible refine zAb ?_
     refine h _ ?_
     unfold yDi
     rw [e1, e2, e3, e4]
     rfl
 ·have e1 : (k == 14) = false := by simp [hk]
  try simp (maxSteps := 2000000) only [go_sem, e1, Bool.not_true, Bool.not_false, Nat.min_self]
  repeat with_reducible refine zAb ?_
  refine h _ ?_
  unfold yDi
  rw [e1]
  rfl
end Go.Hx
end

section
set_option maxRecDepth 100000
set_option linter.unusedSimpArgs false
set_option maxHeartbeats 40000000
namespace Go.Hx
open Go.Proofs
variable [Glob]
attribute [local go_sem] zAu zAr zAs zAk ndV zAo zAj zBc zAJ zAO zAI List.getD_nil List.take_nil List.headD_nil List.headD_cons List.getD_cons_zero List.length_cons List.length_nil yGW yGX yGY zTI zYu yDh List.drop_zero List.take_succ_cons List.take_zero List.map_nil List.map_cons List.length_drop List.length_take List.take_length
attribute [local go_sem] reduceCtorEq Nat.reduceAdd Nat.reduceEqDiff reduceIte Nat.reduceLeDiff Nat.reduceLT Nat.reduceSub
theorem yBi {N : Nat} (ih : yGZ Tryz.prog N) (s : St) (hs : SizeOf.sizeOf s ≤ N) (hsh : shS s = true) : Contract Tryz.prog zHk [.val (.agg (stV s))] { res := .val (.agg (stV (onS s))) } := by
 obtain ⟨hlen, hshl⟩ := zYv hsh
 rw [zCk]
 refine mkA zS6 (base := 0) (fo rfl) (fun hfit => ?_)
 unfold F0 zNa
 simp (maxSteps := 2000000) only [zAD, List.set_cons_succ, List.set_cons_zero, List.map_cons, List.map_nil, zAB, zAa, ioOf, List.length_cons, List.length_nil, Nat.reduceAdd, Nat.reduceSub, List.replicate, List.cons_append, List.nil_append]
 try simp (maxSteps := 2000000) only [go_sem]
 repeat with_reducible refine zAb ?_
 refine zAv (fun x : Nat × St => [(13, .pv (iv x.1)), (138, .pv (.one (bS x.2.tag))), (139, .own zA3 6 (zDG x.2.tests)), (4, .un), (5, .un), (6, .un), (14, .un), (24, .un), (27, .un), (64, .un), (110, .un), (140, .un), (141, .un), (142, .un), (143, .un), (144, .un), (145, .un)]) (fun x : Nat × St => s.tests.length - x.1) (fun x : Nat × St => x.1 ≤ s.tests.length ∧ zCO x.2 (zNf (s.tests.drop x.1)) = zCO (.mk s.tag []) (zNf s.tests) ∧ x.2.tests.length + (s.tests.length - x.1) ≤ 6) ((0, .mk s.tag [])) ?_ ⟨Nat.zero_le _, rfl, by simpa [St.tests_mk] using hlen⟩ ?_
 focus (simp (maxSteps := 2000000) only [go_sem, zAf, zAn, zAz, zAg]; all_goals (repeat' (first | exact trivial | exact zAl (by omega) | exact zAh rfl | exact zAw rfl | exact zAp | exact le_refl _ | refine And.intro ?_ ?_)))
 rintro ⟨i, o⟩ ⟨hi, hinv, hol⟩
 simp only at hi hinv hol
 try simp (maxSteps := 2000000) only [go_sem]
 repeat with_reducible refine zAb ?_
 refine zAc (by rfl) trivial (fun h2 => ?_) (fun h2 => ?_)
 ·have hil : i < s.tests.length := by simp at h2; omega
  obtain ⟨t, ht⟩ : ∃ t, t = s.tests.getD i default := ⟨_, rfl⟩
  have e1 := zEg s.tests i hil
  rw [← ht, zBh] at e1
  have hst := hshl i hil
  rw [← ht] at hst
  have hsz : SizeOf.sizeOf t.list ≤ N := by
   have h3 := yAo hil
   have h4 := zKU s
   have h5 := zOX t
   rw [← ht] at h3
   omega
  have hon := ih t.list hsz hst
  have hshL := yDf _ hst
  obtain ⟨L, hL⟩ : ∃ L, L = onL t.list := ⟨_, rfl⟩
  rw [← hL] at hon hshL
  rw [zA7 (d := default) hil, ← ht, zNf, zZL, yCx, List.length_drop, yGI, ← hL] at hinv
  have hrest : s.tests.length - (i + 1) + 1 = s.tests.length - i := by omega
  have hin := yEW (.mk t.kind t.name t.value t.na t.nb L)
  simp only [tsV, Ts.list_mk, zV2] at hin
  try simp (maxSteps := 2000000) only [go_sem, e1]
  repeat with_reducible refine zAb ?_
  refine zI4 (by repeat' constructor) (hon) ?_
  try simp (maxSteps := 2000000) only [go_sem]
  repeat with_reducible refine zAb ?_
  rcases hsg : zG7 L with _ | x
  ·have hf : zDy o (.mk t.kind t.name t.value t.na t.nb L) (s.tests.length - (i + 1)) = .mk o.tag (o.tests ++ [.mk t.kind t.name t.value t.na t.nb L]) := yBf hsg
   rw [hsg] at hin
   simp only at hin
   refine zAt (by repeat' constructor) (hin) ?_
   try simp (maxSteps := 2000000) only [go_sem]
   repeat with_reducible refine zAb ?_
   refine zOT (by rfl) trivial ?_
   try simp (maxSteps := 2000000) only [go_sem]
   repeat with_reducible refine zAb ?_
   refine ⟨(i + 1, .mk o.tag (o.tests ++ [.mk t.kind t.name t.value t.na t.nb L])), by simp only; omega, ⟨by simp only; omega, by simp only; rw [← hf]; exact hinv, by simp only [St.tests_mk, List.length_append, List.length_cons, List.length_nil]; omega⟩, ?_⟩
   simp (maxSteps := 2000000) only [go_sem, zAf, zAn, zAz, zAg]
   all_goals (repeat' (first | exact trivial | exact zAl (by omega) | exact zAh rfl | exact zAw rfl | exact zAp | exact le_refl _ | refine And.intro ?_ ?_))
   all_goals (first | exact zAw (by simp only [St.tag_mk]) | (refine zDR ?_; simp only [St.tests_mk, zDP, zDG, tsV]))
  ·rw [hsg] at hin
   simp only [zCk] at hin
   have hxl := yBe hshL hsg
   refine zAt (by repeat' constructor) (hin) ?_
   try simp (maxSteps := 2000000) only [go_sem]
   repeat with_reducible refine zAb ?_
   refine zUd (by rfl) trivial ?_
   refine yIE s o x i _ _ _ _ _ _ _ _ (fun b8 hb8 => ?_)
   try simp (maxSteps := 2000000) only [go_sem]
   refine zAc (by rfl) trivial (fun h8 => ?_) (fun h8 => ?_)
   ·rw [hb8] at h8
    obtain ⟨u, hnn, hts⟩ := yCA (t := .mk t.kind t.name t.value t.na t.nb L) h8
    have hf : zDy o (.mk t.kind t.name t.value t.na t.nb L) (s.tests.length - (i + 1)) = .mk o.tag (o.tests ++ [.mk 14 [] [] 0 0 u.list]) := yCy (t := .mk t.kind t.name t.value t.na t.nb L) hsg hnn
    rw [hts]
    simp only [zDG, zBh u]
    try simp (maxSteps := 2000000) only [go_sem]
    repeat with_reducible refine zAb ?_
    refine ⟨(i + 1, .mk o.tag (o.tests ++ [.mk 14 [] [] 0 0 u.list])), by simp only; omega, ⟨by simp only; omega, by simp only; rw [← hf]; exact hinv, by simp only [St.tests_mk, List.length_append, List.length_cons, List.length_nil]; omega⟩, ?_⟩
    simp (maxSteps := 2000000) only [go_sem, zAf, zAn, zAz, zAg]
    all_goals (repeat' (first | exact trivial | exact zAl (by omega) | exact zAh rfl | exact zAw rfl | exact zAp | exact le_refl _ | refine And.intro ?_ ?_))
    all_goals (first | exact zAw (by simp only [St.tag_mk]) | (refine zDR ?_; simp only [St.tests_mk, zDP, zDG, tsV] ; done) | (refine zDR ?_; simp only [St.tests_mk, zDP, zDG, zBh]))
   ·rw [hb8] at h8
    have hnn : zHy (.mk t.kind t.name t.value t.na t.nb L) x = none := yCz (t := .mk t.kind t.name t.value t.na t.nb L) h8
    refine yG0 s o i hil hlen (by omega) _ _ _ _ _ _ _ _ (by rw [zAI]; exact hxl) _ _ _ (fun b10 hb10 => ?_)
    try simp (maxSteps := 2000000) only [go_sem]
    refine zAc (by rfl) trivial (fun h10 => ?_) (fun h10 => ?_)
    ·have hc : t.kind = 14 ∧ (x.tag = [] ∨ o.tag = [] ∨ x.tag = o.tag) ∧ o.tests.length + x.tests.length + (s.tests.length - (i + 1)) ≤ 6 := by
      rw [hb10] at h10
      simp only [yDi, zAI] at h10
      simp at h10 ⊢
      grind
     by_cases hot : o.tag = []
     ·have hf : zDy o (.mk t.kind t.name t.value t.na t.nb L) (s.tests.length - (i + 1)) = .mk x.tag (o.tests ++ x.tests) := by
       rw [zV3 (t := .mk t.kind t.name t.value t.na t.nb L) hsg hnn hc, if_pos hot]
      try simp (maxSteps := 2000000) only [go_sem]
      repeat with_reducible refine zAb ?_
      refine zOT (by simp only [hot]; rfl) trivial ?_
      try simp (maxSteps := 2000000) only [go_sem]
      repeat with_reducible refine zAb ?_
      refine ⟨(i + 1, .mk x.tag (o.tests ++ x.tests)), by simp only; omega, ⟨by simp only; omega, by simp only; rw [← hf]; exact hinv, by simp only [St.tests_mk, List.length_append, List.length_cons, List.length_nil]; omega⟩, ?_⟩
      simp (maxSteps := 2000000) only [go_sem, zAf, zAn, zAz, zAg]
      all_goals (repeat' (first | exact trivial | exact zAl (by omega) | exact zAh rfl | exact zAw rfl | exact zAp | exact le_refl _ | refine And.intro ?_ ?_))
      all_goals (first | exact zAw (by simp only [St.tag_mk]) | (refine zDR ?_; simp only [St.tests_mk, zDP, zDG, tsV] ; done) | (refine zDR ?_; simp only [St.tests_mk, zDP, zDG, zBh]))
     ·have hf : zDy o (.mk t.kind t.name t.value t.na t.nb L) (s.tests.length - (i + 1)) = .mk o.tag (o.tests ++ x.tests) := by
       rw [zV3 (t := .mk t.kind t.name t.value t.na t.nb L) hsg hnn hc, if_neg hot]
      try simp (maxSteps := 2000000) only [go_sem]
      repeat with_reducible refine zAb ?_
      refine zAc (by rfl) trivial (fun h11 => ?_) (fun h11 => ?_)
      ·exact (hot (by simpa using h11)).elim
      try simp (maxSteps := 2000000) only [go_sem]
      repeat with_reducible refine zAb ?_
      refine ⟨(i + 1, .mk o.tag (o.tests ++ x.tests)), by simp only; omega, ⟨by simp only; omega, by simp only; rw [← hf]; exact hinv, by simp only [St.tests_mk, List.length_append, List.length_cons, List.length_nil]; omega⟩, ?_⟩
      simp (maxSteps := 2000000) only [go_sem, zAf, zAn, zAz, zAg]
      all_goals (repeat' (first | exact trivial | exact zAl (by omega) | exact zAh rfl | exact zAw rfl | exact zAp | exact le_refl _ | refine And.intro ?_ ?_))
      all_goals (first | exact zAw (by simp only [St.tag_mk]) | (refine zDR ?_; simp only [St.tests_mk, zDP, zDG, tsV] ; done) | (refine zDR ?_; simp only [St.tests_mk, zDP, zDG, zBh]))
    ·have hc : ¬ (t.kind = 14 ∧ (x.tag = [] ∨ o.tag = [] ∨ x.tag = o.tag) ∧ o.tests.length + x.tests.length + (s.tests.length - (i + 1)) ≤ 6) := by
      rw [hb10] at h10
      simp only [yDi, zAI] at h10
      simp at h10 ⊢
      grind
     have hf : zDy o (.mk t.kind t.name t.value t.na t.nb L) (s.tests.length - (i + 1)) = .mk o.tag (o.tests ++ [.mk t.kind t.name t.value t.na t.nb L]) := yBg (t := .mk t.kind t.name t.value t.na t.nb L) hsg hnn hc
     try simp (maxSteps := 2000000) only [go_sem]
     repeat with_reducible refine zAb ?_
     refine ⟨(i + 1, .mk o.tag (o.tests ++ [.mk t.kind t.name t.value t.na t.nb L])), by simp only; omega, ⟨by simp only; omega, by simp only; rw [← hf]; exact hinv, by simp only [St.tests_mk, List.length_append, List.length_cons, List.length_nil]; omega⟩, ?_⟩
     simp (maxSteps := 2000000) only [go_sem, zAf, zAn, zAz, zAg]
     all_goals (repeat' (first | exact trivial | exact zAl (by omega) | exact zAh rfl | exact zAw rfl | exact zAp | exact le_refl _ | refine And.intro ?_ ?_))
     all_goals (first | exact zAw (by simp only [St.tag_mk]) | (refine zDR ?_; simp only [St.tests_mk, zDP, zDG, tsV] ; done) | (refine zDR ?_; simp only [St.tests_mk, zDP, zDG, zBh]))
 ·have hil : i = s.tests.length := by simp at h2; omega
  rw [hil, List.drop_length] at hinv
  have hR : o = zCO (.mk s.tag []) (zNf s.tests) := hinv
  try simp (maxSteps := 2000000) only [go_sem]
  repeat with_reducible refine zAb ?_
  refine zI4 (by repeat' constructor) (zTK zA2 o.tests (by omega) zXu) ?_
  try simp (maxSteps := 2000000) only [go_sem]
  repeat with_reducible refine zAb ?_
  refine zUg rfl rfl ?_
  rw [yGH, zLM]
  simp only [St.tag_mk, St.tests_mk]
  rw [← hR]
  rfl
end Go.Hx
end

section
set_option maxRecDepth 100000
set_option linter.unusedSimpArgs false
set_option maxHeartbeats 4000000
namespace Go.Hx
open Go.Proofs
variable [Glob]
attribute [local go_sem] zAu zAr zAs zAk ndV zAo zAj zBc zAJ zAO zAI List.length_drop List.length_take List.take_length List.length_nil
attribute [local go_sem] reduceCtorEq Nat.reduceAdd Nat.reduceEqDiff reduceIte Nat.reduceLeDiff Nat.reduceLT Nat.reduceSub
theorem zNg {α : Type} {l : List α} {i : Nat} (d : α) (h : i < l.length) : l.take (i + 1) = l.take i ++ [l.getD i d] := by
 rw [List.take_succ_eq_append_getElem h]; simp [h]
theorem yCB {l : List Pt} {i : Nat} (hi : i < l.length) {N : Nat} (h : SizeOf.sizeOf l ≤ N + 1) : SizeOf.sizeOf (l.getD i default).steps ≤ N := by
 have h1 := yAq hi
 have h2 := zKV (l.getD i default)
 omega
theorem zV4 : ∀ N, yGZ Tryz.prog N
 | 0 => fun l h _ => by have := zPf l; omega
 | N + 1 => fun l hN hsh => by
  have ih := zV4 N
  obtain ⟨hlen, hshl⟩ := zYx hsh
  refine mkA zTh (base := 0) (fo rfl) (fun hfit => ?_)
  unfold F0 zNb
  simp (maxSteps := 2000000) only [zAD, List.set_cons_succ, List.set_cons_zero, List.map_cons, List.map_nil, zAB, zAa, ioOf, List.length_cons, List.length_nil, Nat.reduceAdd, Nat.reduceSub, List.replicate, List.cons_append, List.nil_append]
  try simp (maxSteps := 2000000) only [go_sem]
  repeat with_reducible refine zAb ?_
  refine zAv (fun i : Nat => [(11, .pv (iv i)), (3, .own zBA 2 (zC5 (zLN (l.take i)))), (5, .un), (6, .un), (8, .un), (12, .un), (20, .un), (21, .un), (22, .un), (23, .un), (41, .un), (42, .un), (43, .un), (44, .un), (45, .un), (46, .un)]) (fun i : Nat => l.length - i) (fun i : Nat => i ≤ l.length) (0) ?_ (Nat.zero_le _) ?_
  focus (simp (maxSteps := 2000000) only [go_sem, zAf, zAn, zAz, zAg]; all_goals (repeat' (first | exact trivial | exact zAl (by omega) | exact zAh rfl | exact zAw rfl | exact zAp | exact le_refl _ | refine And.intro ?_ ?_)))
  rintro i hi
  try simp (maxSteps := 2000000) only [go_sem]
  repeat with_reducible refine zAb ?_
  refine zAc (by rfl) trivial (fun h2 => ?_) (fun h2 => ?_)
  ·have hil : i < l.length := by simp at h2; omega
   obtain ⟨p, hp⟩ : ∃ p, p = l.getD i default := ⟨_, rfl⟩
   have e1 := zDN l i hil
   rw [← hp, zBp] at e1
   have hpl := yCB hil hN
   have hps := hshl i hil
   rw [← hp] at hpl hps
   obtain ⟨hs1, hs2, hs3⟩ := zYw hps
   have hon : (zLN (l.take i)).length = i := by simp [zFj]; omega
   try simp (maxSteps := 2000000) only [go_sem, e1]
   repeat with_reducible refine zAb ?_
   refine zI4 (by repeat' constructor) (zXs p.links (by omega)) ?_
   try simp (maxSteps := 2000000) only [go_sem]
   repeat with_reducible refine zAb ?_
   refine zAv (fun j : Nat => [(22, .pv (iv j)), (43, .own zKk 2 (zL5 (zPx (p.steps.take j)))), (8, .un), (23, .un), (45, .un), (46, .un)]) (fun j : Nat => p.steps.length - j) (fun j : Nat => j ≤ p.steps.length) (0) ?_ (Nat.zero_le _) ?_
   focus (simp (maxSteps := 2000000) only [go_sem, zAf, zAn, zAz, zAg]; all_goals (repeat' (first | exact trivial | exact zAl (by omega) | exact zAh rfl | exact zAw rfl | exact zAp | exact le_refl _ | refine And.intro ?_ ?_)))
   rintro j hj
   try simp (maxSteps := 2000000) only [go_sem]
   repeat with_reducible refine zAb ?_
   refine zAc (by rfl) trivial (fun h4 => ?_) (fun h4 => ?_)
   ·have hjl : j < p.steps.length := by simp at h4; omega
    obtain ⟨q, hq⟩ : ∃ q, q = p.steps.getD j default := ⟨_, rfl⟩
    have e2 := zEh p.steps j hjl
    rw [← hq, zCk] at e2
    have hsj := hs3 j hjl
    have hszq := yAp hjl
    rw [← hq] at hsj hszq
    have hon2 : (zPx (p.steps.take j)).length = j := by simp [zHn]; omega
    have hst := yBi ih q (by omega) hsj
    rw [zCk, zCk] at hst
    try simp (maxSteps := 2000000) only [go_sem, e2]
    repeat with_reducible refine zAb ?_
    refine zAt (by repeat' constructor) (hst) ?_
    try simp (maxSteps := 2000000) only [go_sem]
    repeat with_reducible refine zAb ?_
    try simp (maxSteps := 2000000) only [go_sem]
    repeat with_reducible refine zAb ?_
    refine ⟨j + 1, by omega, by omega, ?_⟩
    simp (maxSteps := 2000000) only [go_sem, zAf, zAn, zAz, zAg]
    all_goals (repeat' (first | exact trivial | exact zAl (by omega) | exact zAh rfl | exact zAw rfl | exact zAp | exact le_refl _ | refine And.intro ?_ ?_))
    refine zDR ?_
    rw [zNg default hjl, ← hq]
    simp only [zHn, List.map_append, yCo, List.map_cons, List.map_nil, zL5, zCk]
   ·have hjl : j = p.steps.length := by simp at h4; omega
    subst hjl
    rw [List.take_length]
    try simp (maxSteps := 2000000) only [go_sem]
    repeat with_reducible refine zAb ?_
    refine ⟨i + 1, by omega, by omega, ?_⟩
    simp (maxSteps := 2000000) only [go_sem, zAf, zAn, zAz, zAg]
    all_goals (repeat' (first | exact trivial | exact zAl (by omega) | exact zAh rfl | exact zAw rfl | exact zAp | exact le_refl _ | refine And.intro ?_ ?_))
    refine zDR ?_
    rw [zNg default hil, ← hp]
    simp only [zFj, List.map_append, zYj, List.map_cons, List.map_nil, zC5, zBp, yGG]
    rfl
  ·have hil : i = l.length := by simp at h2; omega
   subst hil
   rw [List.take_length]
   try simp (maxSteps := 2000000) only [go_sem]
   repeat with_reducible refine zAb ?_
   refine zI4 (by repeat' constructor) (zTJ zAN (zLN l) (by simp [zFj]; omega) zPC) ?_
   try simp (maxSteps := 2000000) only [go_sem]
   repeat with_reducible refine zAb ?_
   exact zOV rfl
theorem zNh (l : List Pt) (h : shL l = true) : Contract Tryz.prog zCx [.val (.one (.sl 2 (zC5 l)))] { res := .own zBA 2 (zC5 (onL l)) } := zV4 _ l (Nat.le_refl _) h
theorem zNi (l : List Pt) : Contract Tryz.prog zEl [.val (.one (.sl 2 (zC5 l)))] { res := .tup [.one (.sl 2 (zC5 (if zA6 l = 0 then onL l else []))), iv (zA6 l)] } := by
 have hc := zFc l
 unfold zBc at hc
 refine mkA zTn (base := 0) (fo rfl) (fun hfit => ?_)
 unfold F0 zNc
 simp (maxSteps := 2000000) only [zAD, List.set_cons_succ, List.set_cons_zero, List.map_cons, List.map_nil, zAB, zAa, ioOf, List.length_cons, List.length_nil, Nat.reduceAdd, Nat.reduceSub, List.replicate, List.cons_append, List.nil_append]
 try simp (maxSteps := 2000000) only [go_sem]
 repeat with_reducible refine zAb ?_
 refine zAt (by repeat' constructor) (hc) ?_
 try simp (maxSteps := 2000000) only [go_sem]
 repeat with_reducible refine zAb ?_
 refine zAc (by rfl) trivial (fun h => ?_) (fun h => ?_)
 ·have h2 : ¬ zA6 l = 0 := by simpa using h
  rw [if_neg h2]
  try simp (maxSteps := 2000000) only [go_sem]
  repeat with_reducible refine zAb ?_
  exact zCT (by simp) ⟨zBM rfl trivial (.inr rfl), zBM rfl trivial (.inl rfl), rfl⟩
 ·have h2 : zA6 l = 0 := by simpa using h
  rw [if_pos h2]
  try simp (maxSteps := 2000000) only [go_sem]
  repeat with_reducible refine zAb ?_
  refine zI4 (by repeat' constructor) (zNh l (yGO l h2)) ?_
  try simp (maxSteps := 2000000) only [go_sem]
  repeat with_reducible refine zAb ?_
  rw [h2]
  exact zCT (by simp) ⟨zBM rfl trivial (.inl rfl), zBM rfl trivial (.inl rfl), rfl⟩
theorem zHo (l : List Pt) : Contract Tryz.prog zCK [.val (.one (.sl 2 (zC5 l)))] { res := .tup [.one (.sl 2 (zC5 (if zA6 l = 0 then plL l else []))), iv (zA6 l)] } := by
 have hc := zFc l
 unfold zBc at hc
 refine mkA zQG (base := 0) (fo rfl) (fun hfit => ?_)
 unfold F0 zLL
 simp (maxSteps := 2000000) only [zAD, List.set_cons_succ, List.set_cons_zero, List.map_cons, List.map_nil, zAB, zAa, ioOf, List.length_cons, List.length_nil, Nat.reduceAdd, Nat.reduceSub, List.replicate, List.cons_append, List.nil_append]
 try simp (maxSteps := 2000000) only [go_sem]
 repeat with_reducible refine zAb ?_
 refine zAt (by repeat' constructor) (hc) ?_
 try simp (maxSteps := 2000000) only [go_sem]
 repeat with_reducible refine zAb ?_
 refine zAc (by rfl) trivial (fun h => ?_) (fun h => ?_)
 ·have h2 : ¬ zA6 l = 0 := by simpa using h
  rw [if_neg h2]
  try simp (maxSteps := 2000000) only [go_sem]
  repeat with_reducible refine zAb ?_
  exact zCT (by simp) ⟨zBM rfl trivial (.inr rfl), zBM rfl trivial (.inl rfl), rfl⟩
 have h2 : zA6 l = 0 := by simpa using h
 rw [if_pos h2, h2]
 try simp (maxSteps := 2000000) only [go_sem]
 repeat with_reducible refine zAb ?_
 refine zAv (fun m : List Pt => [(0, .pv (.one (.sl 2 (zC5 m)))), (2, .un), (3, .un), (5, .un), (15, .un)]) (fun m : List Pt => zG8 m) (fun m : List Pt => shL m = true ∧ plL m = plL l) (l) ?_ ⟨yGO l h2, rfl⟩ ?_
 focus (simp (maxSteps := 2000000) only [go_sem, zAf, zAn, zAz, zAg]; all_goals (repeat' (first | exact trivial | exact zAl (by omega) | exact zAh rfl | exact zAw rfl | exact zAp | exact le_refl _ | refine And.intro ?_ ?_)))
 rintro m ⟨hsh, hpl⟩
 try simp (maxSteps := 2000000) only [go_sem]
 repeat with_reducible refine zAb ?_
 refine zI4 (by repeat' constructor) (zNh m hsh) ?_
 try simp (maxSteps := 2000000) only [go_sem]
 repeat with_reducible refine zAb ?_
 have hc := zRn zAN m (onL m) (fun i hi hj => by
  have := zPC (m.getD i default) ((onL m).getD i default)
  rwa [zBp, zBp] at this)
 refine zAt (by repeat' constructor) (hc) ?_
 try simp (maxSteps := 2000000) only [go_sem]
 repeat with_reducible refine zAb ?_
 refine zAc (by rfl) trivial (fun h4 => ?_) (fun h4 => ?_)
 ·try simp (maxSteps := 2000000) only [go_sem]
  repeat with_reducible refine zAb ?_
  rw [← hpl, zPA h4]
  exact zCT (by simp) ⟨zBM rfl trivial (.inl rfl), zBM rfl trivial (.inl rfl), rfl⟩
 ·obtain ⟨g1, g2⟩ := zV0 h4
  try simp (maxSteps := 2000000) only [go_sem]
  repeat with_reducible refine zAb ?_
  refine ⟨onL m, g2, ⟨yDf m hsh, by rw [← g1]; exact hpl⟩, ?_⟩
  simp (maxSteps := 2000000) only [go_sem, zAf, zAn, zAz, zAg]
  all_goals (repeat' (first | exact trivial | exact zAl (by omega) | exact zAh rfl | exact zAw rfl | exact zAp | exact le_refl _ | refine And.intro ?_ ?_))
end Go.Hx
end

section
set_option maxRecDepth 100000
set_option linter.unusedSimpArgs false
set_option maxHeartbeats 4000000
namespace Go.Hx
open Go.Proofs
variable [Glob]
attribute [local go_sem] zAu zAr zAs zAk ndV zAo zAj zBc zAJ zAO zAI
attribute [local go_sem] reduceCtorEq Nat.reduceAdd Nat.reduceEqDiff reduceIte Nat.reduceLeDiff Nat.reduceLT Nat.reduceSub
theorem yG1 (p : Pt) : pzP p = zTS p.steps := by cases p; rfl
theorem yG2 (p : St) : pzS p = 1 + zI7 p.tests := by cases p; rfl
theorem yG3 (p : Ts) : pzT p = 1 + zFu p.list := by cases p; rfl
theorem yCC {l : List Pt} {i : Nat} (h : i < l.length) : zFu (l.drop i) = zTS (l.getD i default).steps + zFu (l.drop (i + 1)) := by
 rw [zA7 (d := default) h, zFu, yG1]
theorem yCD {l : List St} {i : Nat} (h : i < l.length) : zTS (l.drop i) = 1 + zI7 (l.getD i default).tests + zTS (l.drop (i + 1)) := by
 rw [zA7 (d := default) h, zTS, yG2]
theorem yCE {l : List Ts} {i : Nat} (h : i < l.length) : zI7 (l.drop i) = 1 + zFu (l.getD i default).list + zI7 (l.drop (i + 1)) := by
 rw [zA7 (d := default) h, zI7, yG3]
theorem zV5 : ∀ (N : Nat) (l : List Pt), SizeOf.sizeOf l ≤ N → zFu l ≤ 10000000 → Contract Tryz.prog zEm [.val (.one (.sl 2 (zC5 l)))] { res := .val (iv (zFu l)) }
 | 0, l, h, _ => by have := zPf l; omega
 | N + 1, l, hN, hz => by
  have ih := zV5 N
  refine mkA zTy (base := 0) (fo rfl) (fun hfit => ?_)
  unfold F0 zNd
  simp (maxSteps := 2000000) only [zAD, List.set_cons_succ, List.set_cons_zero, List.map_cons, List.map_nil, zAB, zAa, ioOf, List.length_cons, List.length_nil, Nat.reduceAdd, Nat.reduceSub, List.replicate, List.cons_append, List.nil_append]
  try simp (maxSteps := 2000000) only [go_sem]
  repeat with_reducible refine zAb ?_
  have fl := yAI hfit.1
  refine zAv (fun x : Nat × Nat => [(12, .pv (iv x.1)), (3, .pv (iv x.2)), (5, .un), (7, .un), (9, .un), (13, .un), (17, .un), (18, .un), (19, .un), (20, .un), (26, .un), (27, .un), (28, .un), (29, .un), (42, .un), (43, .un), (44, .un), (45, .un), (46, .un), (47, .un), (48, .un), (49, .un), (50, .un), (51, .un)]) (fun x : Nat × Nat => l.length - x.1) (fun x : Nat × Nat => x.1 ≤ l.length ∧ x.2 + zFu (l.drop x.1) = zFu l) ((0, 0)) ?_ ⟨Nat.zero_le _, by simp⟩ ?_
  focus (simp (maxSteps := 2000000) only [go_sem, zAf, zAn, zAz, zAg]; all_goals (repeat' (first | exact trivial | exact zAl (by omega) | exact zAh rfl | exact zAw rfl | exact zAp | exact le_refl _ | refine And.intro ?_ ?_)))
  rintro ⟨i, n⟩ ⟨hi, hn⟩
  simp only at hi hn
  try simp (maxSteps := 2000000) only [go_sem]
  repeat with_reducible refine zAb ?_
  refine zAc (by rfl) trivial (fun h2 => ?_) (fun h2 => ?_)
  ·have hil : i < l.length := by simp at h2; omega
   rw [yCC hil] at hn
   obtain ⟨p, hp⟩ : ∃ p, p = l.getD i default := ⟨_, rfl⟩
   have e1 := zDN l i hil
   have fp := yCi hfit.1 hil
   have hpl : SizeOf.sizeOf p.steps ≤ N := by
    have h3 := yAq hil
    have h4 := zKV p
    rw [← hp] at h3
    omega
   rw [← hp, zBp] at e1
   rw [← hp] at hn fp
   have fps := zU0 fp.1
   try simp (maxSteps := 2000000) only [go_sem, e1]
   repeat with_reducible refine zAb ?_
   refine zAv (fun x : Nat × Nat => [(19, .pv (iv x.1)), (3, .pv (iv x.2)), (7, .un), (9, .un), (20, .un), (26, .un), (27, .un), (28, .un), (29, .un), (44, .un), (45, .un), (46, .un), (47, .un), (48, .un), (49, .un), (50, .un), (51, .un)]) (fun x : Nat × Nat => p.steps.length - x.1) (fun x : Nat × Nat => x.1 ≤ p.steps.length ∧ x.2 + zTS (p.steps.drop x.1) = n + zTS p.steps) ((0, n)) ?_ ⟨Nat.zero_le _, by simp⟩ ?_
   focus (simp (maxSteps := 2000000) only [go_sem, zAf, zAn, zAz, zAg]; all_goals (repeat' (first | exact trivial | exact zAl (by omega) | exact zAh rfl | exact zAw rfl | exact zAp | exact le_refl _ | refine And.intro ?_ ?_)))
   rintro ⟨j, m⟩ ⟨hj, hm⟩
   simp only at hj hm
   try simp (maxSteps := 2000000) only [go_sem]
   repeat with_reducible refine zAb ?_
   refine zAc (by rfl) trivial (fun h4 => ?_) (fun h4 => ?_)
   ·have hjl : j < p.steps.length := by simp at h4; omega
    rw [yCD hjl] at hm
    obtain ⟨q, hq⟩ : ∃ q, q = p.steps.getD j default := ⟨_, rfl⟩
    have e2 := zEh p.steps j hjl
    have fq := yCj fp.1 hjl
    have hszq := yAp hjl
    rw [← hq, zCk] at e2
    rw [← hq] at hm fq hszq
    have fqt := yAJ fq
    try simp (maxSteps := 2000000) only [go_sem, e2]
    repeat with_reducible refine zAb ?_
    refine zAv (fun x : Nat × Nat => [(28, .pv (iv x.1)), (3, .pv (iv x.2)), (9, .un), (29, .un), (46, .un), (47, .un), (48, .un), (49, .un), (50, .un), (51, .un)]) (fun x : Nat × Nat => q.tests.length - x.1) (fun x : Nat × Nat => x.1 ≤ q.tests.length ∧ x.2 + zI7 (q.tests.drop x.1) = m + 1 + zI7 q.tests) ((0, m + 1)) ?_ ⟨Nat.zero_le _, by simp⟩ ?_
    focus (simp (maxSteps := 2000000) only [go_sem, zAf, zAn, zAz, zAg]; all_goals (repeat' (first | exact trivial | exact zAl (by omega) | exact zAh rfl | exact zAw rfl | exact zAp | exact le_refl _ | refine And.intro ?_ ?_)))
    rintro ⟨k, r⟩ ⟨hk, hr⟩
    simp only at hk hr
    try simp (maxSteps := 2000000) only [go_sem]
    repeat with_reducible refine zAb ?_
    refine zAc (by rfl) trivial (fun h6 => ?_) (fun h6 => ?_)
    ·have hkl : k < q.tests.length := by simp at h6; omega
     rw [yCE hkl] at hr
     obtain ⟨t, ht⟩ : ∃ t, t = q.tests.getD k default := ⟨_, rfl⟩
     have e3 := zEg q.tests k hkl
     rw [← ht, zBh] at e3
     have hszt : SizeOf.sizeOf t.list ≤ N := by
      have h7 := yAo hkl
      have h8 := zKU q
      have h9 := zOX t
      rw [← ht] at h7
      omega
     rw [← ht] at hr
     have hc := ih t.list hszt (by omega)
     try simp (maxSteps := 2000000) only [go_sem, e3]
     repeat with_reducible refine zAb ?_
     refine zAt (by repeat' constructor) (hc) ?_
     try simp (maxSteps := 2000000) only [go_sem]
     repeat with_reducible refine zAb ?_
     refine ⟨(k + 1, r + (1 + zFu t.list)), by simp only; omega, ⟨by simp only; omega, by simp only; omega⟩, ?_⟩
     simp (maxSteps := 2000000) only [go_sem, zAf, zAn, zAz, zAg]
     all_goals (repeat' (first | exact trivial | exact zAl (by omega) | exact zAh rfl | exact zAw rfl | exact zAp | exact le_refl _ | refine And.intro ?_ ?_))
    ·have hkl : k = q.tests.length := by simp at h6; omega
     rw [hkl, List.drop_length] at hr
     simp only [zI7] at hr
     try simp (maxSteps := 2000000) only [go_sem]
     repeat with_reducible refine zAb ?_
     refine ⟨(j + 1, r), by simp only; omega, ⟨by simp only; omega, by simp only; omega⟩, ?_⟩
     simp (maxSteps := 2000000) only [go_sem, zAf, zAn, zAz, zAg]
     all_goals (repeat' (first | exact trivial | exact zAl (by omega) | exact zAh rfl | exact zAw rfl | exact zAp | exact le_refl _ | refine And.intro ?_ ?_))
   ·have hjl : j = p.steps.length := by simp at h4; omega
    rw [hjl, List.drop_length] at hm
    simp only [zTS] at hm
    try simp (maxSteps := 2000000) only [go_sem]
    repeat with_reducible refine zAb ?_
    refine ⟨(i + 1, m), by simp only; omega, ⟨by simp only; omega, by simp only; omega⟩, ?_⟩
    simp (maxSteps := 2000000) only [go_sem, zAf, zAn, zAz, zAg]
    all_goals (repeat' (first | exact trivial | exact zAl (by omega) | exact zAh rfl | exact zAw rfl | exact zAp | exact le_refl _ | refine And.intro ?_ ?_))
  ·have hil : i = l.length := by simp at h2; omega
   rw [hil, List.drop_length] at hn
   simp only [zFu] at hn
   try simp (maxSteps := 2000000) only [go_sem]
   repeat with_reducible refine zAb ?_
   refine zAd rfl trivial (.inl ?_)
   congr 3
   omega
theorem zIR (l : List Pt) : Contract Tryz.prog zDr [.val (.one (.sl 2 (zC5 l)))] { res := .tup [iv (if zA6 l = 0 then (zFu l : Int) else 0), iv (zA6 l)] } := by
 have hc := zFc l
 unfold zBc at hc
 refine mkA zTE (base := 0) (fo rfl) (fun hfit => ?_)
 unfold F0 zNe
 simp (maxSteps := 2000000) only [zAD, List.set_cons_succ, List.set_cons_zero, List.map_cons, List.map_nil, zAB, zAa, ioOf, List.length_cons, List.length_nil, Nat.reduceAdd, Nat.reduceSub, List.replicate, List.cons_append, List.nil_append]
 try simp (maxSteps := 2000000) only [go_sem]
 repeat with_reducible refine zAb ?_
 refine zAt (by repeat' constructor) (hc) ?_
 try simp (maxSteps := 2000000) only [go_sem]
 repeat with_reducible refine zAb ?_
 refine zAc (by rfl) trivial (fun h => ?_) (fun h => ?_)
 ·have h2 : ¬ zA6 l = 0 := by simpa using h
  rw [if_neg h2]
  try simp (maxSteps := 2000000) only [go_sem]
  repeat with_reducible refine zAb ?_
  exact zCT (by simp) ⟨zBM rfl trivial (.inl rfl), zBM rfl trivial (.inl rfl), rfl⟩
 ·have h2 : zA6 l = 0 := by simpa using h
  rw [if_pos h2]
  try simp (maxSteps := 2000000) only [go_sem]
  repeat with_reducible refine zAb ?_
  refine zAt (by repeat' constructor) (zV5 _ l (Nat.le_refl _) (yIA l h2)) ?_
  try simp (maxSteps := 2000000) only [go_sem]
  repeat with_reducible refine zAb ?_
  rw [h2]
  exact zCT (by simp) ⟨zBM rfl trivial (.inl rfl), zBM rfl trivial (.inl rfl), rfl⟩
end Go.Hx
end
