/-
  THE ABSTRACT LAYER, FIRST TEXT: pure tree data, and what it means that a value of the model stands for it. Generic over the program. No condition.
-/
import Derived.Calls
import Derived.Orders
import Derived.Below
import Derived.Laws.OwnMore
import Derived.Maps.AppendAt
import Derived.Deep.AppendLies
import Derived.Great.BuildSlice
set_option linter.all false
namespace Go.Hx
open Go.RowKit

/-- One cell's worth of pure data. v: a plain one-cell value; sl: a slice whose rows of k cells are never written again; nl: the nil slice; fp: a pointer to cells that are never written again; clo: a function with what it captured; any: a value of one cell of which nothing is known. -/
inductive PV where
  | v (x : Value)
  | sl (k : Nat) (rows : List (List PV))
  | nl (k : Nat)
  | fp (cs : List PV)
  | clo (f : FuncId) (caps : List PV)
  | any
  deriving Inhabited

/-- The ghost memory: cells that are never written again. -/
abbrev Mem := Nat → Nat → Option Value

/-- A plain value of one cell; a text of a length that is an int. -/
def flat : Value → Bool
  | .agg _ | .tuple _ => false
  | .string s => decide (s.size ≤ maxLen)
  | _ => true

theorem oneCell_of_flat {x : Value} (h : flat x = true) : x.oneCell' = true := by
  cases x <;> simp_all [flat, Value.oneCell']

mutual
def Rp (m : Mem) : PV → Value → Prop
  | .v x, u => u = x ∧ flat x = true
  | .sl k rows, u => ∃ A c, u = .slice A rows.length c ∧ rows.length ≤ c ∧ c ≤ maxLen ∧ (rows = [] ∨ ∃ b o, A = some ⟨b, o, none⟩ ∧ RpRows m b k o rows)
  | .nl _, u => u = .slice none 0 0
  | .fp cs, u => ∃ b o, u = .pointer (some ⟨b, o, none⟩) ∧ RpAt m b o cs
  | .clo f caps, u => ∃ us : List Value, u = .func (.func f) #[] us.toArray ∧ RpL m caps us
  | .any, u => flat u = true
def RpAt (m : Mem) (b : Nat) (o : Nat) : List PV → Prop
  | [] => True
  | x :: xs => (∃ u, m b o = some u ∧ Rp m x u) ∧ RpAt m b (o + 1) xs
def RpRows (m : Mem) (b : Nat) (k : Nat) (o : Nat) : List (List PV) → Prop
  | [] => True
  | r :: rs => (r.length = k ∧ RpAt m b o r) ∧ RpRows m b k (o + k) rs
def RpL (m : Mem) : List PV → List Value → Prop
  | [], us => us = []
  | x :: xs, us => ∃ u us', us = u :: us' ∧ Rp m x u ∧ RpL m xs us'
end


def Mem.le (m m' : Mem) : Prop := ∀ b o u, m b o = some u → m' b o = some u
theorem Mem.le_refl (m : Mem) : m.le m := fun _ _ _ h => h
theorem Mem.le_trans {a b c : Mem} (h : a.le b) (k : b.le c) : a.le c := fun _ _ _ g => k _ _ _ (h _ _ _ g)

section
variable {m m' : Mem}
mutual
theorem Rp.mono (h : m.le m') : ∀ (x : PV) (u : Value), Rp m x u → Rp m' x u
  | .v _, _, g => g
  | .sl k rows, _, g => by
    obtain ⟨A, c, h1, h2, h3, h4⟩ := g
    refine ⟨A, c, h1, h2, h3, h4.imp id ?_⟩
    rintro ⟨b, o, e, hr⟩
    exact ⟨b, o, e, RpRows.mono h rows b k o hr⟩
  | .nl _, _, g => g
  | .fp cs, _, g => by
    obtain ⟨b, o, e, hr⟩ := g
    exact ⟨b, o, e, RpAt.mono h cs b o hr⟩
  | .clo f caps, _, g => by
    obtain ⟨us, e, hr⟩ := g
    exact ⟨us, e, RpL.mono h caps us hr⟩
  | .any, _, g => g
theorem RpAt.mono (h : m.le m') : ∀ (cs : List PV) (b o : Nat), RpAt m b o cs → RpAt m' b o cs
  | [], _, _, _ => trivial
  | x :: xs, b, o, g => by
    obtain ⟨⟨u, h1, h2⟩, h3⟩ := g
    exact ⟨⟨u, h _ _ _ h1, Rp.mono h x u h2⟩, RpAt.mono h xs b (o + 1) h3⟩
theorem RpRows.mono (h : m.le m') : ∀ (rows : List (List PV)) (b k o : Nat), RpRows m b k o rows → RpRows m' b k o rows
  | [], _, _, _, _ => trivial
  | r :: rs, b, k, o, g => by
    obtain ⟨⟨h1, h2⟩, h3⟩ := g
    exact ⟨⟨h1, RpAt.mono h r b o h2⟩, RpRows.mono h rs b k (o + k) h3⟩
theorem RpL.mono (h : m.le m') : ∀ (cs : List PV) (us : List Value), RpL m cs us → RpL m' cs us
  | [], _, g => g
  | x :: xs, _, g => by
    obtain ⟨u, us', h1, h2, h3⟩ := g
    exact ⟨u, us', h1, Rp.mono h x u h2, RpL.mono h xs us' h3⟩
end
end

theorem Rp.flat_ {m : Mem} {x : PV} {u : Value} (h : Rp m x u) : flat u = true := by
  cases x with
  | v x => simp only [Rp] at h; rw [h.1]; exact h.2
  | sl k rows => simp only [Rp] at h; obtain ⟨A, c, rfl, _⟩ := h; rfl
  | nl k => simp only [Rp] at h; subst h; rfl
  | fp cs => simp only [Rp] at h; obtain ⟨b, o, rfl, _⟩ := h; rfl
  | clo f caps => simp only [Rp] at h; obtain ⟨us, rfl, _⟩ := h; rfl
  | any => simpa only [Rp] using h

theorem RpAt.get {m : Mem} {b : Nat} : ∀ {cs : List PV} {o : Nat}, RpAt m b o cs → ∀ (i : Nat) (x : PV), cs[i]? = some x → ∃ u, m b (o + i) = some u ∧ Rp m x u
  | [], _, _, i, x, hx => by simp at hx
  | y :: ys, o, h, i, x, hx => by
    simp only [RpAt] at h
    cases i with
    | zero => simp at hx; subst hx; exact h.1
    | succ i =>
      obtain ⟨u, h1, h2⟩ := RpAt.get h.2 i x (by simpa using hx)
      exact ⟨u, by rw [← h1]; congr 1; omega, h2⟩

theorem RpAt.of_get {m : Mem} {b : Nat} : ∀ {cs : List PV} {o : Nat}, (∀ (i : Nat) (x : PV), cs[i]? = some x → ∃ u, m b (o + i) = some u ∧ Rp m x u) → RpAt m b o cs
  | [], _, _ => by simp [RpAt]
  | y :: ys, o, h => by
    simp only [RpAt]
    refine ⟨by simpa using h 0 y rfl, RpAt.of_get fun i x hx => ?_⟩
    obtain ⟨u, h1, h2⟩ := h (i + 1) x (by simpa using hx)
    exact ⟨u, by rw [← h1]; congr 1; omega, h2⟩

theorem RpAt.sub {m : Mem} {b o : Nat} {cs : List PV} (h : RpAt m b o cs) (i n : Nat) : RpAt m b (o + i) ((cs.drop i).take n) := by
  refine RpAt.of_get fun j x hx => ?_
  have h1 : cs[i + j]? = some x := by
    rw [List.getElem?_take] at hx
    split at hx
    · simpa using hx
    · cases hx
  obtain ⟨u, h2, h3⟩ := h.get _ _ h1
  exact ⟨u, by rw [← h2]; congr 1; omega, h3⟩

theorem RpRows.get {m : Mem} {b k : Nat} : ∀ {rows : List (List PV)} {o : Nat}, RpRows m b k o rows → ∀ (i : Nat) (r : List PV), rows[i]? = some r → r.length = k ∧ RpAt m b (o + i * k) r
  | [], _, _, i, x, hx => by simp at hx
  | y :: ys, o, h, i, x, hx => by
    simp only [RpRows] at h
    cases i with
    | zero => simp at hx; subst hx; simpa using h.1
    | succ i =>
      obtain ⟨h1, h2⟩ := RpRows.get h.2 i x (by simpa using hx)
      refine ⟨h1, ?_⟩
      have e : o + (i + 1) * k = o + k + i * k := by rw [Nat.add_mul]; omega
      rw [e]; exact h2

theorem RpRows.of_get {m : Mem} {b k : Nat} : ∀ {rows : List (List PV)} {o : Nat}, (∀ (i : Nat) (r : List PV), rows[i]? = some r → r.length = k ∧ RpAt m b (o + i * k) r) → RpRows m b k o rows
  | [], _, _ => by simp [RpRows]
  | y :: ys, o, h => by
    simp only [RpRows]
    refine ⟨by simpa using h 0 y rfl, RpRows.of_get fun i x hx => ?_⟩
    obtain ⟨h1, h2⟩ := h (i + 1) x (by simpa using hx)
    have e : o + (i + 1) * k = o + k + i * k := by rw [Nat.add_mul]; omega
    rw [e] at h2
    exact ⟨h1, h2⟩

theorem RpRows.append {m : Mem} {b k o : Nat} {rows rs : List (List PV)} (h : RpRows m b k o rows) (h' : RpRows m b k (o + rows.length * k) rs) : RpRows m b k o (rows ++ rs) := by
  refine RpRows.of_get fun i r hr => ?_
  rcases Nat.lt_or_ge i rows.length with hi | hi
  · rw [List.getElem?_append_left hi] at hr
    exact h.get i r hr
  · rw [List.getElem?_append_right hi] at hr
    obtain ⟨h1, h2⟩ := h'.get _ r hr
    refine ⟨h1, ?_⟩
    have e : o + i * k = o + rows.length * k + (i - rows.length) * k := by
      rw [Nat.sub_mul]
      have := Nat.mul_le_mul_right k hi
      omega
    rw [e]; exact h2

theorem RpRows.sub {m : Mem} {b k o : Nat} {rows : List (List PV)} (h : RpRows m b k o rows) (i n : Nat) : RpRows m b k (o + i * k) ((rows.drop i).take n) := by
  refine RpRows.of_get fun j r hr => ?_
  have h1 : rows[i + j]? = some r := by
    rw [List.getElem?_take] at hr
    split at hr
    · simpa using hr
    · cases hr
  obtain ⟨h2, h3⟩ := h.get _ _ h1
  refine ⟨h2, ?_⟩
  have e : o + i * k + j * k = o + (i + j) * k := by rw [Nat.add_mul]; omega
  rw [e]; exact h3

theorem RpL.length {m : Mem} : ∀ {cs : List PV} {us : List Value}, RpL m cs us → us.length = cs.length
  | [], us, h => by simp only [RpL] at h; subst h; rfl
  | x :: xs, us, h => by
    simp only [RpL] at h
    obtain ⟨u, us', rfl, _, h3⟩ := h
    simp [RpL.length h3]

theorem RpL.get {m : Mem} : ∀ {cs : List PV} {us : List Value}, RpL m cs us → ∀ (i : Nat) (x : PV) (u : Value), cs[i]? = some x → us[i]? = some u → Rp m x u
  | [], us, h, i, x, u, hx, _ => by simp at hx
  | y :: ys, us, h, i, x, u, hx, hu => by
    simp only [RpL] at h
    obtain ⟨v, us', rfl, h2, h3⟩ := h
    cases i with
    | zero => simp at hx hu; subst hx; subst hu; exact h2
    | succ i => exact RpL.get h3 i x u (by simpa using hx) (by simpa using hu)

theorem RpL.of_get {m : Mem} : ∀ {cs : List PV} {us : List Value}, us.length = cs.length → (∀ (i : Nat) (x : PV) (u : Value), cs[i]? = some x → us[i]? = some u → Rp m x u) → RpL m cs us
  | [], us, h, _ => by simp only [RpL]; exact List.eq_nil_of_length_eq_zero (by simpa using h)
  | y :: ys, us, h, g => by
    simp only [RpL]
    cases us with
    | nil => simp at h
    | cons u us' =>
      exact ⟨u, us', rfl, g 0 y u rfl rfl, RpL.of_get (by simpa using h) fun i x v hx hv => g (i + 1) x v (by simpa using hx) (by simpa using hv)⟩

theorem RpL.append {m : Mem} {cs ds : List PV} {us vs : List Value} (h : RpL m cs us) (h' : RpL m ds vs) : RpL m (cs ++ ds) (us ++ vs) := by
  refine RpL.of_get (by simp [h.length, h'.length]) fun i x u hx hu => ?_
  rcases Nat.lt_or_ge i cs.length with hi | hi
  · rw [List.getElem?_append_left hi] at hx
    rw [List.getElem?_append_left (by rw [h.length]; exact hi)] at hu
    exact h.get i x u hx hu
  · rw [List.getElem?_append_right hi] at hx
    rw [List.getElem?_append_right (by rw [h.length]; exact hi), h.length] at hu
    exact h'.get _ x u hx hu

theorem RpL.sub {m : Mem} {cs : List PV} {us : List Value} (h : RpL m cs us) (i n : Nat) : RpL m ((cs.drop i).take n) ((us.drop i).take n) := by
  have hl := h.length
  refine RpL.of_get (by simp [hl]) fun j x u hx hu => ?_
  rw [List.getElem?_take] at hx hu
  split at hx
  · rename_i hj
    rw [if_pos hj] at hu
    exact h.get (i + j) x u (by simpa using hx) (by simpa using hu)
  · cases hx

/-- The ghost memory says what the world holds. -/
def MemOk (m : Mem) (w : World) : Prop := ∀ b o u, m b o = some u → w.cell? ⟨b, o, none⟩ = some u

/-- The values that lie at a place are those that the ghost memory has there. -/
theorem RpAt.vals {m : Mem} {b o : Nat} {cs : List PV} (h : RpAt m b o cs) : ∃ us : List Value, RpL m cs us ∧ ∀ i u, us[i]? = some u → m b (o + i) = some u := by
  induction cs generalizing o with
  | nil => exact ⟨[], by simp [RpL], by simp⟩
  | cons x xs ih =>
    simp only [RpAt] at h
    obtain ⟨⟨u, h1, h2⟩, h3⟩ := h
    obtain ⟨us, h4, h5⟩ := ih h3
    refine ⟨u :: us, by simp only [RpL]; exact ⟨u, us, rfl, h2, h4⟩, fun i v hv => ?_⟩
    cases i with
    | zero => simp at hv; subst hv; exact h1
    | succ i => rw [← h5 i v (by simpa using hv)]; congr 1; omega

theorem RpL.at_ {m : Mem} {b o : Nat} {cs : List PV} {us : List Value} (h : RpL m cs us) (g : ∀ i u, us[i]? = some u → m b (o + i) = some u) : RpAt m b o cs :=
  RpAt.of_get fun i x hx => by
    have hi : i < us.length := by rw [h.length]; exact (List.getElem?_eq_some_iff.1 hx).1
    exact ⟨us[i], g i _ (List.getElem?_eq_getElem hi), h.get i x _ hx (List.getElem?_eq_getElem hi)⟩

theorem RpL.flat_ {m : Mem} {cs : List PV} {us : List Value} (h : RpL m cs us) : ∀ u ∈ us, flat u = true := by
  intro u hu
  obtain ⟨i, hi⟩ := List.getElem?_of_mem hu
  have hl : i < cs.length := by rw [← h.length]; exact (List.getElem?_eq_some_iff.1 hi).1
  exact (h.get i _ u (List.getElem?_eq_getElem hl) hi).flat_

theorem RpRows.vals {m : Mem} {b k o : Nat} {rows : List (List PV)} (h : RpRows m b k o rows) : ∃ us : List Value, us.length = rows.length * k ∧ RpL m rows.flatten us ∧ ∀ i u, us[i]? = some u → m b (o + i) = some u := by
  induction rows generalizing o with
  | nil => exact ⟨[], by simp, by simp [RpL], by simp⟩
  | cons r rs ih =>
    simp only [RpRows] at h
    obtain ⟨⟨h1, h2⟩, h3⟩ := h
    obtain ⟨us, h4, h5⟩ := h2.vals
    obtain ⟨vs, h6, h7, h8⟩ := ih h3
    have hl := h4.length
    refine ⟨us ++ vs, by simp [hl, h1, h6, Nat.add_mul]; omega, by rw [List.flatten_cons]; exact h4.append h7, fun i u hu => ?_⟩
    rcases Nat.lt_or_ge i us.length with hi | hi
    · rw [List.getElem?_append_left hi] at hu
      exact h5 i u hu
    · rw [List.getElem?_append_right hi] at hu
      rw [← h8 _ u hu]; congr 1; omega

theorem RpRows.of_flat {m : Mem} {b k o : Nat} {rows : List (List PV)} {us : List Value} (hk : ∀ r ∈ rows, r.length = k) (h : RpL m rows.flatten us) (g : ∀ i u, us[i]? = some u → m b (o + i) = some u) : RpRows m b k o rows := by
  induction rows generalizing o us with
  | nil => simp [RpRows]
  | cons r rs ih =>
    rw [List.flatten_cons] at h
    have hr : r.length = k := hk r (by simp)
    have hl := h.length
    simp only [RpRows]
    have h1 : RpL m r (us.take k) := by
      have := h.sub 0 k
      simp only [List.drop_zero] at this
      rwa [← hr, List.take_left, hr] at this
    have h2 : RpL m rs.flatten (us.drop k) := by
      have h3 := h.sub k (us.length - k)
      rw [← hr, List.drop_left, hr] at h3
      rw [List.take_of_length_le (by simp at hl ⊢; omega), List.take_of_length_le (by simp)] at h3
      exact h3
    refine ⟨⟨hr, h1.at_ fun i u hu => ?_⟩, ih (fun x hx => hk x (by simp [hx])) h2 fun i u hu => ?_⟩
    · rw [List.getElem?_take] at hu
      split at hu
      · exact g i u hu
      · cases hu
    · rw [List.getElem?_drop] at hu
      rw [← g _ u hu]; congr 1; omega

end Go.Hx
