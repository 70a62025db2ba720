/-
  THE ABSTRACT LAYER: owned trees: values whose slices are the owner's alone, on every level, each in a block of its own. Generic over the program. No condition.
-/
import Derived.Test.YtjnagiaooecklaaDoorHxA
set_option linter.all false
namespace Go.Hx
open Go.RowKit

/-- A cell of an owned tree: plain data; an owned slice (its block, where that is known; its elements' type and cells); anything. -/
inductive OV where
  | p (x : PV)
  | os (b : Option Nat) (e k : Nat) (rows : List (List OV))
  | hole
  deriving Inhabited

def blk (u : Value) : List Nat := u.ownBlock.toList

theorem mem_blk {u : Value} {g : Nat} : g ∈ blk u ↔ u.ownBlock = some g := by simp [blk]

mutual
/-- Value u is this tree; fp: the blocks that it owns. -/
def OvR (m : Mem) (w : World) : OV → Value → List Nat → Prop
  | .p x, u, fp => fp = [] ∧ Rp m x u
  | .hole, u, fp => fp = [] ∧ flat u = true
  | .os pb e k rows, u, fp => ∃ xs f, w.ownsRow 0 e k u rows.length xs ∧ OvRows m w k rows xs f ∧ fp = blk u ++ f ∧ ∀ b, pb = some b → rows ≠ [] → u.ownBlock = some b
def OvL (m : Mem) (w : World) : List OV → List Value → List Nat → Prop
  | [], us, fp => us = [] ∧ fp = []
  | x :: xs, us, fp => ∃ u us' f1 f2, us = u :: us' ∧ fp = f1 ++ f2 ∧ OvR m w x u f1 ∧ OvL m w xs us' f2
def OvRows (m : Mem) (w : World) (k : Nat) : List (List OV) → List Value → List Nat → Prop
  | [], us, fp => us = [] ∧ fp = []
  | r :: rs, us, fp => ∃ us1 us2 f1 f2, us = us1 ++ us2 ∧ fp = f1 ++ f2 ∧ us1.length = k ∧ r.length = k ∧ OvL m w r us1 f1 ∧ OvRows m w k rs us2 f2
end

section
variable {m m' : Mem} {w w' : World}

theorem ownsRow_keep {base e size n : Nat} {u : Value} {xs : List Value} (h : w.ownsRow base e size u n xs) (hb : ∀ g, u.ownBlock = some g → w'.heap[g]? = w.heap[g]?) : w'.ownsRow base e size u n xs := by
  obtain ⟨h1, h2⟩ := h
  refine ⟨h1, ?_⟩
  rcases h2 with h2 | ⟨g, cap, cur, rfl, hg, hh, r⟩
  · exact .inl h2
  · exact .inr ⟨g, cap, cur, rfl, hg, (hb g rfl).trans hh, r⟩

theorem flat_ownsRow {base e size n : Nat} {u : Value} {xs : List Value} (h : w.ownsRow base e size u n xs) : flat u = true := by
  rcases h.2 with ⟨rfl, _⟩ | ⟨g, cap, cur, rfl, _⟩ <;> rfl

mutual
theorem OvR.congr (hm : m.le m') : ∀ (x : OV) (u : Value) (fp : List Nat), (∀ g ∈ fp, w'.heap[g]? = w.heap[g]?) → OvR m w x u fp → OvR m' w' x u fp
  | .p x, u, fp, _, h => by
    simp only [OvR] at h ⊢
    exact ⟨h.1, Rp.mono hm x u h.2⟩
  | .hole, u, fp, _, h => by simp only [OvR] at h ⊢; exact h
  | .os pb e k rows, u, fp, hw, h => by
    simp only [OvR] at h ⊢
    obtain ⟨xs, f, h1, h2, rfl, h4⟩ := h
    exact ⟨xs, f, ownsRow_keep h1 fun g hg => hw g (List.mem_append_left _ (mem_blk.2 hg)), OvRows.congr hm k rows xs f (fun g hg => hw g (List.mem_append_right _ hg)) h2, rfl, h4⟩
theorem OvL.congr (hm : m.le m') : ∀ (xs : List OV) (us : List Value) (fp : List Nat), (∀ g ∈ fp, w'.heap[g]? = w.heap[g]?) → OvL m w xs us fp → OvL m' w' xs us fp
  | [], us, fp, _, h => by simp only [OvL] at h ⊢; exact h
  | x :: xs, us, fp, hw, h => by
    simp only [OvL] at h ⊢
    obtain ⟨u, us', f1, f2, rfl, rfl, h3, h4⟩ := h
    exact ⟨u, us', f1, f2, rfl, rfl, OvR.congr hm x u f1 (fun g hg => hw g (List.mem_append_left _ hg)) h3, OvL.congr hm xs us' f2 (fun g hg => hw g (List.mem_append_right _ hg)) h4⟩
theorem OvRows.congr (hm : m.le m') (k : Nat) : ∀ (rows : List (List OV)) (us : List Value) (fp : List Nat), (∀ g ∈ fp, w'.heap[g]? = w.heap[g]?) → OvRows m w k rows us fp → OvRows m' w' k rows us fp
  | [], us, fp, _, h => by simp only [OvRows] at h ⊢; exact h
  | r :: rs, us, fp, hw, h => by
    simp only [OvRows] at h ⊢
    obtain ⟨us1, us2, f1, f2, rfl, rfl, h3, h4, h5, h6⟩ := h
    exact ⟨us1, us2, f1, f2, rfl, rfl, h3, h4, OvL.congr hm r us1 f1 (fun g hg => hw g (List.mem_append_left _ hg)) h5, OvRows.congr hm k rs us2 f2 (fun g hg => hw g (List.mem_append_right _ hg)) h6⟩
end

theorem OvR.flat_ {x : OV} {u : Value} {fp : List Nat} (h : OvR m w x u fp) : flat u = true := by
  cases x with
  | p x => simp only [OvR] at h; exact h.2.flat_
  | hole => simp only [OvR] at h; exact h.2
  | os pb e k rows => simp only [OvR] at h; obtain ⟨xs, f, h1, _⟩ := h; exact flat_ownsRow h1

theorem OvL.length : ∀ {xs : List OV} {us : List Value} {fp : List Nat}, OvL m w xs us fp → us.length = xs.length
  | [], us, fp, h => by simp only [OvL] at h; rw [h.1]; rfl
  | x :: xs, us, fp, h => by
    simp only [OvL] at h
    obtain ⟨u, us', f1, f2, rfl, rfl, h3, h4⟩ := h
    simp [h4.length]

theorem OvL.flat_ : ∀ {xs : List OV} {us : List Value} {fp : List Nat}, OvL m w xs us fp → ∀ u ∈ us, flat u = true
  | [], us, fp, h, u, hu => by simp only [OvL] at h; rw [h.1] at hu; cases hu
  | x :: xs, us, fp, h, u, hu => by
    simp only [OvL] at h
    obtain ⟨v, us', f1, f2, rfl, rfl, h3, h4⟩ := h
    rcases List.mem_cons.1 hu with rfl | hu
    · exact h3.flat_
    · exact h4.flat_ u hu

theorem OvL.append : ∀ {xs ys : List OV} {us vs : List Value} {f g : List Nat}, OvL m w xs us f → OvL m w ys vs g → OvL m w (xs ++ ys) (us ++ vs) (f ++ g)
  | [], ys, us, vs, f, g, h, h' => by simp only [OvL] at h; obtain ⟨rfl, rfl⟩ := h; exact h'
  | x :: xs, ys, us, vs, f, g, h, h' => by
    simp only [OvL] at h
    obtain ⟨u, us', f1, f2, rfl, rfl, h3, h4⟩ := h
    simp only [List.cons_append, OvL]
    exact ⟨u, us' ++ vs, f1, f2 ++ g, rfl, by rw [List.append_assoc], h3, h4.append h'⟩

theorem OvL.split : ∀ {xs ys : List OV} {us : List Value} {fp : List Nat}, OvL m w (xs ++ ys) us fp → ∃ us1 us2 f1 f2, us = us1 ++ us2 ∧ fp = f1 ++ f2 ∧ OvL m w xs us1 f1 ∧ OvL m w ys us2 f2
  | [], ys, us, fp, h => ⟨[], us, [], fp, rfl, rfl, by simp only [OvL]; exact ⟨trivial, trivial⟩, h⟩
  | x :: xs, ys, us, fp, h => by
    simp only [List.cons_append, OvL] at h
    obtain ⟨u, us', f1, f2, rfl, rfl, h3, h4⟩ := h
    obtain ⟨a, b, c, d, rfl, rfl, h5, h6⟩ := h4.split
    exact ⟨u :: a, b, f1 ++ c, d, rfl, by rw [List.append_assoc], by simp only [OvL]; exact ⟨u, a, f1, c, rfl, rfl, h3, h5⟩, h6⟩

theorem ovRows_iff {k : Nat} : ∀ {rows : List (List OV)} {us : List Value} {fp : List Nat}, OvRows m w k rows us fp ↔ OvL m w rows.flatten us fp ∧ ∀ r ∈ rows, r.length = k
  | [], us, fp => by simp [OvRows, OvL]
  | r :: rs, us, fp => by
    simp only [OvRows, List.flatten_cons]
    constructor
    · rintro ⟨us1, us2, f1, f2, rfl, rfl, h3, h4, h5, h6⟩
      obtain ⟨h7, h8⟩ := ovRows_iff.1 h6
      refine ⟨h5.append h7, fun x hx => ?_⟩
      rcases List.mem_cons.1 hx with rfl | hx
      · exact h4
      · exact h8 x hx
    · rintro ⟨h1, h2⟩
      obtain ⟨us1, us2, f1, f2, rfl, rfl, h3, h4⟩ := h1.split
      have hr := h2 r List.mem_cons_self
      exact ⟨us1, us2, f1, f2, rfl, rfl, by rw [h3.length]; exact hr, hr, h3, ovRows_iff.2 ⟨h4, fun x hx => h2 x (List.mem_cons_of_mem _ hx)⟩⟩

/-- An owned slice, its rows laid flat. -/
theorem ovR_os {pb : Option Nat} {e k : Nat} {rows : List (List OV)} {u : Value} {fp : List Nat} : OvR m w (.os pb e k rows) u fp ↔
    ∃ xs f, w.ownsRow 0 e k u rows.length xs ∧ OvL m w rows.flatten xs f ∧ (∀ r ∈ rows, r.length = k) ∧ fp = blk u ++ f ∧ ∀ b, pb = some b → rows ≠ [] → u.ownBlock = some b := by
  simp only [OvR, ovRows_iff]
  constructor
  · rintro ⟨xs, f, h1, ⟨h2, h3⟩, h4, h5⟩; exact ⟨xs, f, h1, h2, h3, h4, h5⟩
  · rintro ⟨xs, f, h1, h2, h3, h4, h5⟩; exact ⟨xs, f, h1, ⟨h2, h3⟩, h4, h5⟩

mutual
theorem OvR.lt : ∀ (x : OV) (u : Value) (fp : List Nat), OvR m w x u fp → ∀ g ∈ fp, g < w.heap.size
  | .p x, u, fp, h, g, hg => by simp only [OvR] at h; rw [h.1] at hg; cases hg
  | .hole, u, fp, h, g, hg => by simp only [OvR] at h; rw [h.1] at hg; cases hg
  | .os pb e k rows, u, fp, h, g, hg => by
    simp only [OvR] at h
    obtain ⟨xs, f, h1, h2, rfl, h4⟩ := h
    rcases List.mem_append.1 hg with hg | hg
    · exact (h1.lt g (mem_blk.1 hg)).2
    · exact OvRows.lt k rows xs f h2 g hg
theorem OvL.lt : ∀ (xs : List OV) (us : List Value) (fp : List Nat), OvL m w xs us fp → ∀ g ∈ fp, g < w.heap.size
  | [], us, fp, h, g, hg => by simp only [OvL] at h; rw [h.2] at hg; cases hg
  | x :: xs, us, fp, h, g, hg => by
    simp only [OvL] at h
    obtain ⟨u, us', f1, f2, rfl, rfl, h3, h4⟩ := h
    rcases List.mem_append.1 hg with hg | hg
    · exact OvR.lt x u f1 h3 g hg
    · exact OvL.lt xs us' f2 h4 g hg
theorem OvRows.lt (k : Nat) : ∀ (rows : List (List OV)) (us : List Value) (fp : List Nat), OvRows m w k rows us fp → ∀ g ∈ fp, g < w.heap.size
  | [], us, fp, h, g, hg => by simp only [OvRows] at h; rw [h.2] at hg; cases hg
  | r :: rs, us, fp, h, g, hg => by
    simp only [OvRows] at h
    obtain ⟨us1, us2, f1, f2, rfl, rfl, h3, h4, h5, h6⟩ := h
    rcases List.mem_append.1 hg with hg | hg
    · exact OvL.lt r us1 f1 h5 g hg
    · exact OvRows.lt k rs us2 f2 h6 g hg
end

/-! ### An owned tree is frozen -/

mutual
/-- The tree as plain data, where nothing is missing. -/
def OV.frz : OV → Option PV
  | .p x => some x
  | .hole => none
  | .os _ _ k rows => match frzRows rows with | some rs => some (.sl k rs) | none => none
def frzL : List OV → Option (List PV)
  | [] => some []
  | x :: xs => match x.frz, frzL xs with | some y, some ys => some (y :: ys) | _, _ => none
def frzRows : List (List OV) → Option (List (List PV))
  | [] => some []
  | r :: rs => match frzL r, frzRows rs with | some y, some ys => some (y :: ys) | _, _ => none
end

theorem frzL_length : ∀ {xs : List OV} {ys : List PV}, frzL xs = some ys → ys.length = xs.length
  | [], ys, h => by simp only [frzL, Option.some.injEq] at h; rw [← h]; rfl
  | x :: xs, ys, h => by
    simp only [frzL] at h
    split at h
    · rename_i y ys' h1 h2
      injection h with h
      subst h
      simp [frzL_length h2]
    · cases h
theorem frzRows_length : ∀ {xs : List (List OV)} {ys : List (List PV)}, frzRows xs = some ys → ys.length = xs.length
  | [], ys, h => by simp only [frzRows, Option.some.injEq] at h; rw [← h]; rfl
  | x :: xs, ys, h => by
    simp only [frzRows] at h
    split at h
    · rename_i y ys' h1 h2
      injection h with h
      subst h
      simp [frzRows_length h2]
    · cases h

/-- What freezing gives: a greater ghost memory, which parts from the old one in these blocks alone. -/
def Frz (m : Mem) (w : World) (fp : List Nat) (Q : Mem → Prop) : Prop := ∃ m', m.le m' ∧ MemOk m' w ∧ (∀ g o, g ∉ fp → m' g o = m g o) ∧ Q m'

mutual
theorem OvR.freeze (w : World) : ∀ (x : OV) (m : Mem) (u : Value) (fp : List Nat) (y : PV), OvR m w x u fp → x.frz = some y → MemOk m w → fp.Nodup → (∀ g ∈ fp, ∀ o, m g o = none) → Frz m w fp (fun m' => Rp m' y u)
  | .p x, m, u, fp, y, h, hy, hm, _, _ => by
    simp only [OvR] at h
    simp only [OV.frz, Option.some.injEq] at hy
    subst hy
    exact ⟨m, m.le_refl, hm, fun _ _ _ => rfl, h.2⟩
  | .hole, m, u, fp, y, h, hy, hm, _, _ => by simp [OV.frz] at hy
  | .os pb e k rows, m, u, fp, y, h, hy, hm, hn, hf => by
    simp only [OvR] at h
    obtain ⟨xs, f, h1, h2, rfl, h4⟩ := h
    simp only [OV.frz] at hy
    split at hy
    · rename_i rs hrs
      injection hy with hy
      subst hy
      rw [List.nodup_append] at hn
      obtain ⟨_, hn2, hn3⟩ := hn
      obtain ⟨m1, g1, g2, g3, g4, g5⟩ := OvRows.freeze w k rows m xs f rs h2 hrs hm hn2 (fun g hg => hf g (List.mem_append_right _ hg))
      have hout : ∀ b, u.ownBlock = some b → ∀ o, m1 b o = none := by
        intro b hb o
        rw [g3 b o (fun hc => hn3 b (mem_blk.2 hb) b hc rfl)]
        exact hf b (List.mem_append_left _ (mem_blk.2 hb)) o
      have hle : m1.le (fun b o => if u.ownBlock = some b then xs[o]? else m1 b o) := by
        intro b o v hv
        show (if u.ownBlock = some b then xs[o]? else m1 b o) = some v
        rw [if_neg (fun hb => by rw [hout b hb o] at hv; cases hv)]
        exact hv
      refine ⟨_, Mem.le_trans g1 hle, ?_, ?_, ?_⟩
      · intro b o v hv
        have hv' : (if u.ownBlock = some b then xs[o]? else m1 b o) = some v := hv
        split at hv'
        · rename_i hb
          have := h1.cells hb o v hv'
          have e1 : (⟨b, 0, none⟩ : Addr).add o = ⟨b, o, none⟩ := by unfold Addr.add; split <;> simp_all
          rwa [e1] at this
        · exact g2 b o v hv'
      · intro g o hg
        show (if u.ownBlock = some g then xs[o]? else m1 g o) = m g o
        rw [if_neg (fun hb => hg (List.mem_append_left _ (mem_blk.2 hb)))]
        exact g3 g o (fun hc => hg (List.mem_append_right _ hc))
      · simp only [Rp]
        have hlen := frzRows_length hrs
        rcases h1.2 with ⟨rfl, h6⟩ | ⟨g, cap, cur, rfl, _, hh, h6, h7, _⟩
        · have : rs = [] := List.eq_nil_of_length_eq_zero (by omega)
          subst this
          exact ⟨none, 0, by simp, Nat.le_refl _, by simp [maxLen], .inl rfl⟩
        · refine ⟨_, cap, by rw [hlen], by omega, h7, .inr ⟨g, 0, rfl, RpRows.of_flat (us := xs) g5 (RpL.mono hle _ _ g4) fun i v hv => ?_⟩⟩
          show (if (Value.slice (some ⟨g, 0, none⟩) rows.length cap).ownBlock = some g then xs[0 + i]? else m1 g (0 + i)) = some v
          rw [if_pos (show (Value.slice (some ⟨g, 0, none⟩) rows.length cap).ownBlock = some g from rfl), Nat.zero_add]
          exact hv
    · cases hy
theorem OvL.freeze (w : World) : ∀ (xs : List OV) (m : Mem) (us : List Value) (fp : List Nat) (ys : List PV), OvL m w xs us fp → frzL xs = some ys → MemOk m w → fp.Nodup → (∀ g ∈ fp, ∀ o, m g o = none) → Frz m w fp (fun m' => RpL m' ys us)
  | [], m, us, fp, ys, h, hy, hm, _, _ => by
    simp only [OvL] at h
    simp only [frzL, Option.some.injEq] at hy
    subst hy
    exact ⟨m, m.le_refl, hm, fun _ _ _ => rfl, by simp only [RpL]; exact h.1⟩
  | x :: xs, m, us, fp, ys, h, hy, hm, hn, hf => by
    simp only [OvL] at h
    obtain ⟨u, us', f1, f2, rfl, rfl, h3, h4⟩ := h
    simp only [frzL] at hy
    split at hy
    · rename_i y ys' hy1 hy2
      injection hy with hy
      subst hy
      rw [List.nodup_append] at hn
      obtain ⟨hn1, hn2, hn3⟩ := hn
      obtain ⟨m1, a1, a2, a3, a4⟩ := OvR.freeze w x m u f1 y h3 hy1 hm hn1 (fun g hg => hf g (List.mem_append_left _ hg))
      have hf2 : ∀ g ∈ f2, ∀ o, m1 g o = none := by
        intro g hg o
        rw [a3 g o (fun hc => hn3 g hc g hg rfl)]
        exact hf g (List.mem_append_right _ hg) o
      obtain ⟨m2, b1, b2, b3, b4⟩ := OvL.freeze w xs m1 us' f2 ys' (OvL.congr a1 xs us' f2 (fun _ _ => rfl) h4) hy2 a2 hn2 hf2
      refine ⟨m2, Mem.le_trans a1 b1, b2, fun g o hg => ?_, ?_⟩
      · rw [b3 g o (fun hc => hg (List.mem_append_right _ hc)), a3 g o (fun hc => hg (List.mem_append_left _ hc))]
      · simp only [RpL]
        exact ⟨u, us', rfl, Rp.mono b1 y u a4, b4⟩
    · cases hy
theorem OvRows.freeze (w : World) (k : Nat) : ∀ (rows : List (List OV)) (m : Mem) (us : List Value) (fp : List Nat) (ys : List (List PV)), OvRows m w k rows us fp → frzRows rows = some ys → MemOk m w → fp.Nodup → (∀ g ∈ fp, ∀ o, m g o = none) → Frz m w fp (fun m' => RpL m' ys.flatten us ∧ ∀ r ∈ ys, r.length = k)
  | [], m, us, fp, ys, h, hy, hm, _, _ => by
    simp only [OvRows] at h
    simp only [frzRows, Option.some.injEq] at hy
    subst hy
    exact ⟨m, m.le_refl, hm, fun _ _ _ => rfl, by simp only [List.flatten_nil, RpL]; exact ⟨h.1, by simp⟩⟩
  | r :: rs, m, us, fp, ys, h, hy, hm, hn, hf => by
    simp only [OvRows] at h
    obtain ⟨us1, us2, f1, f2, rfl, rfl, h3, h4, h5, h6⟩ := h
    simp only [frzRows] at hy
    split at hy
    · rename_i y ys' hy1 hy2
      injection hy with hy
      subst hy
      rw [List.nodup_append] at hn
      obtain ⟨hn1, hn2, hn3⟩ := hn
      obtain ⟨m1, a1, a2, a3, a4⟩ := OvL.freeze w r m us1 f1 y h5 hy1 hm hn1 (fun g hg => hf g (List.mem_append_left _ hg))
      have hf2 : ∀ g ∈ f2, ∀ o, m1 g o = none := by
        intro g hg o
        rw [a3 g o (fun hc => hn3 g hc g hg rfl)]
        exact hf g (List.mem_append_right _ hg) o
      obtain ⟨m2, b1, b2, b3, b4, b5⟩ := OvRows.freeze w k rs m1 us2 f2 ys' (OvRows.congr a1 k rs us2 f2 (fun _ _ => rfl) h6) hy2 a2 hn2 hf2
      refine ⟨m2, Mem.le_trans a1 b1, b2, fun g o hg => ?_, ?_, ?_⟩
      · rw [b3 g o (fun hc => hg (List.mem_append_right _ hc)), a3 g o (fun hc => hg (List.mem_append_left _ hc))]
      · rw [List.flatten_cons]
        exact (RpL.mono b1 _ _ a4).append b4
      · intro x hx
        rcases List.mem_cons.1 hx with rfl | hx
        · rw [frzL_length hy1]; exact h4
        · exact b5 x hx
    · cases hy
end

/-- Frozen data as a tree that owns nothing. -/
theorem OvL.of_rp : ∀ {cs : List PV} {us : List Value}, RpL m cs us → OvL m w (cs.map .p) us []
  | [], us, h => by simp only [RpL] at h; simp only [List.map_nil, OvL]; exact ⟨h, trivial⟩
  | x :: xs, us, h => by
    simp only [RpL] at h
    obtain ⟨u, us', rfl, h2, h3⟩ := h
    simp only [List.map_cons, OvL]
    exact ⟨u, us', [], [], rfl, rfl, by simp only [OvR]; exact ⟨trivial, h2⟩, OvL.of_rp h3⟩

/-! ### A part of a tree -/

def OV.get : OV → List (Nat × Nat) → Option OV
  | x, [] => some x
  | .os _ _ _ rows, (i, c) :: pt => match (rows.getD i [])[c]? with
    | some y => y.get pt
    | none => none
  | _, _ :: _ => none
def OV.upd : OV → List (Nat × Nat) → OV → OV
  | _, [], y => y
  | .os b e k rows, (i, c) :: pt, y => .os b e k (rows.set i ((rows.getD i []).set c (((rows.getD i []).getD c .hole).upd pt y)))
  | x, _ :: _, _ => x

theorem OvL.mid {xs ys : List OV} {x : OV} {us : List Value} {fp : List Nat} (h : OvL m w (xs ++ x :: ys) us fp) :
    ∃ us1 u us2 f1 fx f2, us = us1 ++ u :: us2 ∧ fp = f1 ++ (fx ++ f2) ∧ us1.length = xs.length ∧ OvL m w xs us1 f1 ∧ OvR m w x u fx ∧ OvL m w ys us2 f2 := by
  obtain ⟨us1, us2, f1, f2, rfl, rfl, h1, h2⟩ := h.split
  simp only [OvL] at h2
  obtain ⟨u, us', g1, g2, rfl, rfl, h3, h4⟩ := h2
  exact ⟨us1, u, us', f1, g1, g2, rfl, rfl, h1.length, h1, h3, h4⟩

theorem OvL.mid_mk {xs ys : List OV} {x : OV} {us1 us2 : List Value} {u : Value} {f1 fx f2 : List Nat} (h1 : OvL m w xs us1 f1) (h2 : OvR m w x u fx) (h3 : OvL m w ys us2 f2) : OvL m w (xs ++ x :: ys) (us1 ++ u :: us2) (f1 ++ (fx ++ f2)) :=
  h1.append (by simp only [OvL]; exact ⟨u, us2, fx, f2, rfl, rfl, h2, h3⟩)

/-- Row i's cell c in the rows laid flat. -/
theorem flat_cell {α : Type} {k : Nat} : ∀ (rows : List (List α)) (i c : Nat) (x : α), (∀ r ∈ rows, r.length = k) → (rows.getD i [])[c]? = some x →
    ∃ a b, rows.flatten = a ++ x :: b ∧ a.length = i * k + c ∧ ∀ y, (rows.set i ((rows.getD i []).set c y)).flatten = a ++ y :: b
  | [], i, c, x, _, h => by simp at h
  | r :: rs, 0, c, x, hk, h => by
    have hc : c < r.length := (List.getElem?_eq_some_iff.1 (by simpa using h)).1
    have hx : r[c]? = some x := by simpa using h
    have hsplit : r = r.take c ++ x :: r.drop (c + 1) := by
      have := List.take_append_drop c r
      rw [List.drop_eq_getElem_cons hc] at this
      have e : r[c] = x := by rw [List.getElem?_eq_getElem hc] at hx; exact Option.some.inj hx
      rw [e] at this
      exact this.symm
    refine ⟨r.take c, r.drop (c + 1) ++ rs.flatten, ?_, by simp; omega, fun y => ?_⟩
    · rw [List.flatten_cons]
      conv => lhs; rw [hsplit]
      simp
    · simp only [List.getD_cons_zero, List.set_cons_zero, List.flatten_cons]
      have : r.set c y = r.take c ++ y :: r.drop (c + 1) := by
        rw [List.set_eq_take_append_cons_drop, if_pos hc]
      rw [this]
      simp
  | r :: rs, i + 1, c, x, hk, h => by
    have hr := hk r List.mem_cons_self
    obtain ⟨a, b, h1, h2, h3⟩ := flat_cell rs i c x (fun r' hr' => hk r' (List.mem_cons_of_mem _ hr')) (by simpa using h)
    refine ⟨r ++ a, b, by rw [List.flatten_cons, h1]; simp, by simp [h2, hr, Nat.add_mul]; omega, fun y => ?_⟩
    simp only [List.getD_cons_succ, List.set_cons_succ, List.flatten_cons, h3 y]
    simp

/-- THE FOCUS: what lies at a place of the tree; whatever is put there in its stead (under the same value), the tree stands. -/
theorem OvR.focus : ∀ (p : List (Nat × Nat)) (x y : OV) (u : Value) (fp : List Nat), OvR m w x u fp → x.get p = some y →
    ∃ v f1 fy f2, fp = f1 ++ (fy ++ f2) ∧ OvR m w y v fy ∧ (p = [] → v = u) ∧ ∀ (m' : Mem) (w' : World) (y' : OV) (fy' : List Nat), m.le m' → (∀ g ∈ f1 ++ f2, w'.heap[g]? = w.heap[g]?) → OvR m' w' y' v fy' → OvR m' w' (x.upd p y') u (f1 ++ (fy' ++ f2))
  | [], x, y, u, fp, h, hy => by
    simp only [OV.get, Option.some.injEq] at hy
    subst hy
    refine ⟨u, [], fp, [], by simp, h, fun _ => rfl, fun m' w' y' fy' _ _ h' => ?_⟩
    simp only [OV.upd, List.nil_append, List.append_nil]
    exact h'
  | (i, c) :: p, .p x, y, u, fp, h, hy => by simp [OV.get] at hy
  | (i, c) :: p, .hole, y, u, fp, h, hy => by simp [OV.get] at hy
  | (i, c) :: p, .os pb e k rows, y, u, fp, h, hy => by
    obtain ⟨xs, f, h1, h2, h3, rfl, h5⟩ := ovR_os.1 h
    simp only [OV.get] at hy
    split at hy
    · rename_i z hz
      obtain ⟨a, b, e1, e2, e3⟩ := flat_cell rows i c z h3 hz
      rw [e1] at h2
      obtain ⟨us1, uz, us2, g1, gz, g2, rfl, rfl, hl, k1, k2, k3⟩ := h2.mid
      obtain ⟨v, f1, fy, f2, rfl, q1, _, q2⟩ := OvR.focus p z y uz gz k2 hy
      have hi : i < rows.length := by
        rcases Nat.lt_or_ge i rows.length with hi | hi
        · exact hi
        · simp [List.getD_eq_getElem?_getD, List.getElem?_eq_none hi] at hz
      refine ⟨v, blk u ++ (g1 ++ f1), fy, f2 ++ g2, by simp [List.append_assoc], q1, (fun h' => by cases h'), fun m' w' y' fy' hm hw h' => ?_⟩
      have e4 : (rows.getD i []).getD c .hole = z := by rw [List.getD_eq_getElem?_getD, hz]; rfl
      simp only [OV.upd, e4]
      refine ovR_os.2 ⟨us1 ++ uz :: us2, g1 ++ ((f1 ++ (fy' ++ f2)) ++ g2), ?_, ?_, ?_, by simp [List.append_assoc], ?_⟩
      · rw [List.length_set]
        exact ownsRow_keep h1 fun g hg => hw g (by simp [mem_blk.2 hg])
      · rw [e3]
        refine OvL.mid_mk (OvL.congr hm _ _ _ (fun g hg => hw g (by simp [hg])) k1) (q2 m' w' y' fy' hm (fun g hg => hw g ?_) h') (OvL.congr hm _ _ _ (fun g hg => hw g (by simp [hg])) k3)
        rcases List.mem_append.1 hg with hg | hg <;> simp [hg]
      · intro r hr
        rcases List.mem_or_eq_of_mem_set hr with hr | rfl
        · exact h3 r hr
        · rw [List.length_set]
          have : rows.getD i [] ∈ rows := by rw [List.getD_eq_getElem?_getD, List.getElem?_eq_getElem hi]; exact List.getElem_mem hi
          exact h3 _ this
      · intro b' hb hne
        exact h5 b' hb (fun e => hne (by rw [e]; simp))
    · cases hy

/-! ### Cells are read out, others are laid in -/

/-- What is left where a cell has been read with what it owns. -/
def OV.left : OV → OV
  | .p x => .p x
  | _ => .hole

theorem OvL.left : ∀ {xs : List OV} {us : List Value} {fp : List Nat}, OvL m w xs us fp → OvL m w (xs.map OV.left) us []
  | [], us, fp, h => by simp only [OvL] at h; simp only [List.map_nil, OvL]; exact ⟨h.1, trivial⟩
  | x :: xs, us, fp, h => by
    simp only [OvL] at h
    obtain ⟨u, us', f1, f2, rfl, rfl, h3, h4⟩ := h
    simp only [List.map_cons, OvL]
    refine ⟨u, us', [], [], rfl, rfl, ?_, h4.left⟩
    have hf := h3.flat_
    cases x with
    | p x => simp only [OvR] at h3; simp only [OV.left, OvR]; exact ⟨trivial, h3.2⟩
    | hole => simp only [OV.left, OvR]; exact ⟨trivial, hf⟩
    | os pb e k rows => simp only [OV.left, OvR]; exact ⟨trivial, hf⟩

/-- Cells ys laid over a row from place f on. -/
def layR (row : List OV) (f : Nat) (ys : List OV) : List OV := row.take f ++ ys ++ row.drop (f + ys.length)

theorem layR_length {row ys : List OV} {f : Nat} (h : f + ys.length ≤ row.length) : (layR row f ys).length = row.length := by
  simp [layR]; omega

/-- Row i in the rows laid flat. -/
theorem flat_row {α : Type} {k : Nat} : ∀ (rows : List (List α)) (i : Nat) (r : List α), (∀ r ∈ rows, r.length = k) → rows[i]? = some r →
    ∃ a b, rows.flatten = a ++ (r ++ b) ∧ a.length = i * k ∧ ∀ r', (rows.set i r').flatten = a ++ (r' ++ b)
  | [], i, r, _, h => by simp at h
  | r0 :: rs, 0, r, hk, h => by
    simp at h
    subst h
    exact ⟨[], rs.flatten, by simp, by simp, fun r' => by simp⟩
  | r0 :: rs, i + 1, r, hk, h => by
    have hr := hk r0 List.mem_cons_self
    obtain ⟨a, b, h1, h2, h3⟩ := flat_row rs i r (fun r' hr' => hk r' (List.mem_cons_of_mem _ hr')) (by simpa using h)
    exact ⟨r0 ++ a, b, by rw [List.flatten_cons, h1]; simp, by simp [h2, hr, Nat.add_mul]; omega, fun r' => by simp only [List.set_cons_succ, List.flatten_cons, h3 r']; simp⟩

theorem OvL.take {xs : List OV} {us : List Value} {fp : List Nat} (h : OvL m w xs us fp) (f n : Nat) (hn : f + n ≤ xs.length) :
    ∃ us1 us2 us3 f1 f2 f3, us = us1 ++ (us2 ++ us3) ∧ fp = f1 ++ (f2 ++ f3) ∧ us1.length = f ∧ us2.length = n ∧ OvL m w (xs.take f) us1 f1 ∧ OvL m w ((xs.drop f).take n) us2 f2 ∧ OvL m w (xs.drop (f + n)) us3 f3 := by
  have e : xs = xs.take f ++ ((xs.drop f).take n ++ xs.drop (f + n)) := by
    rw [show xs.drop (f + n) = (xs.drop f).drop n by rw [List.drop_drop], List.take_append_drop, List.take_append_drop]
  rw [e] at h
  obtain ⟨us1, us', f1, f', rfl, rfl, h1, h2⟩ := h.split
  obtain ⟨us2, us3, f2, f3, rfl, rfl, h3, h4⟩ := h2.split
  exact ⟨us1, us2, us3, f1, f2, f3, rfl, rfl, by rw [h1.length]; simp; omega, by rw [h3.length]; simp; omega, h1, h3, h4⟩

/-- A part of a row is read out: what it holds; the slice that is left. -/
theorem OvR.out {pb : Option Nat} {e k : Nat} {rows : List (List OV)} {u : Value} {fp : List Nat} (h : OvR m w (.os pb e k rows) u fp) {i f n : Nat} {r : List OV} (hr : rows[i]? = some r) (hn : f + n ≤ r.length) :
    ∃ us fa fm fb, fp = fa ++ (fm ++ fb) ∧ OvL m w ((r.drop f).take n) us fm ∧ us.length = n ∧ OvR m w (.os pb e k (rows.set i (layR r f (((r.drop f).take n).map OV.left)))) u (fa ++ fb) ∧
      ∃ g cap, u = .slice (some ⟨g, 0, none⟩) rows.length cap ∧ g ∈ fa ∧ ∀ (j : Nat) (v : Value), us[j]? = some v → w.cell? ⟨g, i * k + f + j, none⟩ = some v := by
  obtain ⟨xs, f', h1, h2, h3, rfl, h5⟩ := ovR_os.1 h
  obtain ⟨a, b, e1, e2, e3⟩ := flat_row rows i r h3 hr
  have hi : i < rows.length := (List.getElem?_eq_some_iff.1 hr).1
  have hrk : r.length = k := h3 r (List.mem_of_getElem? hr)
  rw [e1] at h2
  obtain ⟨us1, us', f1, f'', rfl, rfl, k1, k2⟩ := h2.split
  obtain ⟨us2, us3, f2, f3, rfl, rfl, k3, k4⟩ := k2.split
  obtain ⟨v1, v2, v3, g1, g2, g3, rfl, rfl, hl1, hl2, q1, q2, q3⟩ := k3.take f n hn
  have hlen2 : ((r.drop f).take n).length = n := by simp; omega
  refine ⟨v2, blk u ++ (f1 ++ g1), g2, g3 ++ f3, by simp [List.append_assoc], q2, hl2, ?_, ?_⟩
  · refine ovR_os.2 ⟨us1 ++ ((v1 ++ (v2 ++ v3)) ++ us3), (f1 ++ g1) ++ (g3 ++ f3), by rw [List.length_set]; exact h1, ?_, ?_, by simp [List.append_assoc], ?_⟩
    · rw [e3]
      have := q2.left
      have hlay : OvL m w (layR r f (((r.drop f).take n).map OV.left)) (v1 ++ (v2 ++ v3)) (g1 ++ ([] ++ g3)) := by
        unfold layR
        rw [List.append_assoc]
        refine q1.append (this.append ?_)
        rw [List.length_map, hlen2]
        exact q3
      have h9 := k1.append (hlay.append k4)
      simpa [List.append_assoc] using h9
    · intro r' hr'
      rcases List.mem_or_eq_of_mem_set hr' with hr' | rfl
      · exact h3 r' hr'
      · rw [layR_length (by simp; omega)]
        exact hrk
    · intro b' hb hne
      exact h5 b' hb (fun e => hne (by rw [e]; simp))
  · rcases h1.2 with ⟨_, h6⟩ | ⟨g, cap, cur, rfl, _, hh, _⟩
    · omega
    · refine ⟨g, cap, rfl, by simp [blk, Value.ownBlock], fun j v hv => ?_⟩
      have hj : j < v2.length := (List.getElem?_eq_some_iff.1 hv).1
      have := h1.cells (g := g) rfl (i * k + f + j) v ?_
      · have e9 : (⟨g, 0, none⟩ : Addr).add (i * k + f + j) = ⟨g, i * k + f + j, none⟩ := by unfold Addr.add; split <;> simp_all
        rwa [e9] at this
      · have hu1 : us1.length = i * k := by rw [k1.length, e2]
        rw [List.getElem?_append_right (by omega), List.getElem?_append_left (by simp; omega), List.getElem?_append_right (by omega), List.getElem?_append_left (by omega)]
        rw [show i * k + f + j - us1.length - v1.length = j by omega]
        exact hv

end
end Go.Hx
