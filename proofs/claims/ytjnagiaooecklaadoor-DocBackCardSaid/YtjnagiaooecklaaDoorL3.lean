/-
  Right documents: what was inserted is the part there, and removed again leaves the document as it was; what was removed and inserted again leaves it as it was. Plain Lean, no program in sight. No condition.
-/
import Derived.Test.YtjnagiaooecklaaDoorL2
set_option linter.all false
namespace Go.Hx

/-- The second is the first, or above it. -/
inductive Anc (u : Nat → Int) : Nat → Nat → Prop
  | refl (k : Nat) : Anc u k k
  | up {k j x : Nat} : u k = (j : Int) → Anc u j x → Anc u k x

section
variable {u v w : Nat → Int}
theorem Anc.trans {a b c : Nat} (h : Anc u a b) (k : Anc u b c) : Anc u a c := by
  induction h with
  | refl _ => exact k
  | up e _ ih => exact .up e (ih k)

/-- The ups of n elements are right. -/
def Ups (u : Nat → Int) (n : Nat) : Prop := (0 < n → u 0 = -1) ∧ ∀ i, i + 1 < n → ∃ p : Nat, u (i + 1) = p ∧ Anc u i p

theorem Ups.both {n : Nat} (h : Ups u n) : ∀ k, k < n → (-1 ≤ u k ∧ u k < k) ∧ ∀ p, Anc u k p → p ≤ k := by
  intro k
  induction k using Nat.strongRecOn with
  | ind k ih =>
    intro hk
    have h1 : -1 ≤ u k ∧ u k < k := by
      cases k with
      | zero => have := h.1 hk; omega
      | succ k =>
        obtain ⟨p, e, hp⟩ := h.2 k hk
        have := (ih k (by omega) (by omega)).2 p hp
        omega
    refine ⟨h1, fun p hp => ?_⟩
    cases hp with
    | refl _ => exact Nat.le_refl _
    | up e hp =>
      rename_i j
      have := (ih j (by omega) (by omega)).2 p hp
      omega
theorem Ups.lt {n k : Nat} (h : Ups u n) (hk : k < n) : -1 ≤ u k ∧ u k < k := (h.both k hk).1
theorem Ups.le {n k p : Nat} (h : Ups u n) (hk : k < n) (hp : Anc u k p) : p ≤ k := (h.both k hk).2 p hp
theorem Ups.root {n : Nat} (h : Ups u n) : ∀ k, k < n → Anc u k 0 := by
  intro k
  induction k using Nat.strongRecOn with
  | ind k ih =>
    intro hk
    cases k with
    | zero => exact .refl _
    | succ k =>
      obtain ⟨p, e, hp⟩ := h.2 k hk
      have := h.le (by omega) hp
      exact .up e (ih p (by omega) (by omega))
theorem Ups.two {n : Nat} (h : Ups u n) {a b c : Nat} (h1 : Anc u a b) : a < n → Anc u a c → c ≤ b → Anc u b c := by
  induction h1 with
  | refl _ => intro _ h2 _; exact h2
  | @up k j x e h3 ih =>
    intro ha h2 hc
    have hl := h.lt ha
    have hx := h.le (k := j) (by omega) h3
    cases h2 with
    | refl _ => omega
    | up e2 h4 =>
      rename_i j2
      have : j = j2 := by omega
      subst this
      exact ih (by omega) h4 hc

/-! ### The document's own words -/

theorem chain_anc {d : List Nd} : ∀ (f k : Nat), (∀ j : Nat, j ≤ k → upOf d j < j) → k < f → ∀ x : Int, x ∈ chain d f k ↔ ∃ y : Nat, x = y ∧ Anc (upOf d) k y
  | 0, k, _, h, _ => by omega
  | f + 1, k, hd, h, x => by
    simp only [chain, Int.toNat_natCast]
    rw [if_neg (by omega), List.mem_cons]
    have hk := hd k (Nat.le_refl _)
    by_cases hn : upOf d k < 0
    · have e : chain d f (upOf d k) = [] := by cases f <;> simp [chain, hn]
      rw [e]
      constructor
      · rintro (rfl | h1)
        · exact ⟨k, rfl, .refl _⟩
        · cases h1
      · rintro ⟨y, rfl, hy⟩
        cases hy with
        | refl _ => exact .inl rfl
        | up e2 _ => omega
    · obtain ⟨j, hj⟩ : ∃ j : Nat, upOf d k = j := ⟨(upOf d k).toNat, by omega⟩
      rw [hj, chain_anc f j (fun i hi => hd i (by omega)) (by omega) x]
      constructor
      · rintro (rfl | ⟨y, rfl, hy⟩)
        · exact ⟨k, rfl, .refl _⟩
        · exact ⟨y, rfl, .up hj hy⟩
      · rintro ⟨y, rfl, hy⟩
        cases hy with
        | refl _ => exact .inl rfl
        | up e2 h2 =>
          have e3 := hj.symm.trans e2
          rw [Int.natCast_inj] at e3
          subst e3
          exact .inr ⟨y, rfl, h2⟩

theorem docOk_iff {d : List Nd} : docOk d d.length = true ↔ (∀ x ∈ d, nodeFine x = true) ∧ Ups (upOf d) d.length := by
  constructor
  · intro h
    refine ⟨fun x hx => ?_, fun h0 => ?_, fun i hi => ?_⟩
    · obtain ⟨i, hi, rfl⟩ := List.mem_iff_getElem.1 hx
      have := range_all_get h hi
      simp only [okAt, Bool.and_eq_true] at this
      simpa [hi] using this.1
    · exact up_zero h h0
    · have h1 := up_mem h hi
      unfold C at h1
      rw [chain_anc _ _ (fun j hj => (docOk_up h j (by omega)).2) (by omega)] at h1
      exact h1
  · rintro ⟨h1, h2⟩
    refine List.all_eq_true.2 fun i hi => ?_
    have hi := List.mem_range.1 hi
    simp only [okAt, Bool.and_eq_true, okUp]
    refine ⟨h1 _ (mem_getD hi), ?_⟩
    split
    · rename_i e
      subst e
      simp [h2.1 hi]
    · obtain ⟨j, rfl⟩ : ∃ j, i = j + 1 := ⟨i - 1, by omega⟩
      obtain ⟨p, hp, ha⟩ := h2.2 j hi
      have := (chain_anc (d := d) (j + 1) j (fun i hi => (h2.lt (by omega)).2) (by omega) (upOf d (j + 1))).2 ⟨p, hp, ha⟩
      rw [show (((j + 1 : Nat) : Int) - 1) = j by omega]
      simpa using this
theorem checkDoc_iff {d : List Nd} : checkDoc d = 0 ↔ (1 ≤ d.length ∧ d.length ≤ 64) ∧ (∀ x ∈ d, nodeFine x = true) ∧ Ups (upOf d) d.length := by
  rw [← docOk_iff, checkDoc]
  split
  · rename_i h
    split
    · rename_i h2; exact ⟨fun _ => ⟨h, h2⟩, fun _ => rfl⟩
    · rename_i h2; exact ⟨fun h => (by cases h), fun h3 => absurd h3.2 h2⟩
  · rename_i h; exact ⟨fun h => (by cases h), fun h3 => absurd h3.1 h⟩
theorem C_anc {d : List Nd} (hd : docOk d d.length = true) {k : Nat} (hk : k < d.length) {x : Nat} : (x : Int) ∈ C d k ↔ Anc (upOf d) k x := by
  unfold C
  rw [chain_anc _ _ (fun j hj => (docOk_up hd j (by omega)).2) hk]
  constructor
  · rintro ⟨y, e, h⟩
    rw [Int.natCast_inj] at e
    subst e; exact h
  · intro h; exact ⟨x, rfl, h⟩
theorem thereE_iff {d : List Nd} {k : Int} : thereE d k = 0 ↔ checkDoc d = 0 ∧ 0 ≤ k ∧ k < d.length := by
  unfold thereE
  split
  · split <;> omega
  · rename_i h; simp [h]

/-! ### Ups behind an inserting, a removing -/

theorem Ups.ins {N E n k : Nat} (hu : Ups u N) (hv : Ups v E) (hE : 0 < E) (hn : n ≤ N) (hk : k < n) (ha : Anc u (n - 1) k) (hs : n < N → u n ≤ k)
    (w1 : ∀ i, i < n → w i = u i) (w2 : w n = k) (w3 : ∀ j, 0 < j → j < E → w (n + j) = v j + n) (w4 : ∀ i, n ≤ i → i < N → w (i + E) = if u i ≥ n then u i + E else u i) : Ups w (N + E) := by
  have a1 : ∀ {i p}, Anc u i p → i < n → Anc w i p := by
    intro i p h
    induction h with
    | refl _ => intro _; exact .refl _
    | @up i j x e _ ih =>
      intro hi
      have := hu.lt (k := i) (Nat.lt_of_lt_of_le hi hn)
      exact .up ((w1 _ hi).trans e) (ih (by omega))
  have a2 : ∀ {j q}, Anc v j q → j < E → Anc w (n + j) (n + q) := by
    intro j q h
    induction h with
    | refl _ => intro _; exact .refl _
    | @up k' j' x e _ ih =>
      intro hj
      have h0 := hv.lt hj
      have : 0 < k' := by
        rcases Nat.eq_zero_or_pos k' with e0 | e0
        · subst e0; have := hv.1 hE; omega
        · exact e0
      exact .up (j := n + j') (by rw [w3 _ this hj]; omega) (ih (by omega))
  have a3 : ∀ {j q}, j < E → Anc u k q → Anc w (n + j) q := fun hj hq => ((a2 (hv.root _ hj) hj).trans (.up w2 (.refl _))).trans (a1 hq hk)
  have a4 : ∀ {i p}, Anc u i p → i < N → Anc w (if i ≥ n then i + E else i) (if p ≥ n then p + E else p) := by
    intro i p h
    induction h with
    | refl _ => intro _; exact .refl _
    | @up i j x e _ ih =>
      intro hi
      have hl := hu.lt hi
      refine .up ?_ (ih (by omega))
      by_cases h1 : i ≥ n
      · rw [if_pos h1, w4 i h1 hi, e]
        by_cases h2 : j ≥ n
        · rw [if_pos (by omega), if_pos h2]; omega
        · rw [if_neg (by omega), if_neg h2]
      · rw [if_neg h1, w1 i (by omega), e, if_neg (by omega)]
  refine ⟨fun _ => by rw [w1 0 (by omega)]; exact hu.1 (by omega), fun i hi => ?_⟩
  rcases Nat.lt_trichotomy (i + 1) n with h1 | h1 | h1
  · obtain ⟨p, e, hp⟩ := hu.2 i (by omega)
    exact ⟨p, (w1 _ h1).trans e, a1 hp (by omega)⟩
  · refine ⟨k, by rw [h1]; exact w2, ?_⟩
    have : n - 1 = i := by omega
    rw [this] at ha
    exact a1 ha (by omega)
  · rcases Nat.lt_trichotomy (i + 1) (n + E) with h2 | h2 | h2
    · obtain ⟨j, rfl⟩ : ∃ j, i = n + j := ⟨i - n, by omega⟩
      obtain ⟨p, e, hp⟩ := hv.2 j (by omega)
      refine ⟨n + p, ?_, a2 hp (by omega)⟩
      rw [show n + j + 1 = n + (j + 1) by omega, w3 _ (by omega) (by omega), e]; omega
    · have hnN : n < N := by omega
      obtain ⟨m, rfl⟩ : ∃ m, n = m + 1 := ⟨n - 1, by omega⟩
      obtain ⟨p, e, hp⟩ := hu.2 m hnN
      have hm := hu.le (by omega) hp
      have hs := hs hnN
      refine ⟨p, ?_, ?_⟩
      · rw [h2, w4 _ (Nat.le_refl _) hnN, e, if_neg (by omega)]
      · rw [show i = m + 1 + (E - 1) by omega]
        exact a3 (by omega) (hu.two ha (by omega) hp (by omega))
    · obtain ⟨j, rfl⟩ : ∃ j, i = j + E := ⟨i - E, by omega⟩
      obtain ⟨p, e, hp⟩ := hu.2 j (by omega)
      refine ⟨if p ≥ n then p + E else p, ?_, ?_⟩
      · rw [show j + E + 1 = j + 1 + E by omega, w4 _ (by omega) (by omega), e]
        by_cases h3 : p ≥ n
        · rw [if_pos (by omega), if_pos h3]; omega
        · rw [if_neg (by omega), if_neg h3]
      · have := a4 hp (by omega)
        rw [if_pos (by omega)] at this
        exact this

theorem Ups.rem {N n b : Nat} (hu : Ups u N) (h0 : 0 < n) (hn : n < b) (hb : b ≤ N) (hin : ∀ i, n < i → i < b → Anc u i n) (hout : b < N → u b < n) (hreg : ∀ k j : Nat, b ≤ k → k < N → u k = j → j < n ∨ b ≤ j)
    (w1 : ∀ i, i < n → w i = u i) (w2 : ∀ i, n ≤ i → i + (b - n) < N → w i = if u (i + (b - n)) ≥ b then u (i + (b - n)) - b + n else u (i + (b - n))) : Ups w (N - (b - n)) := by
  have a1 : ∀ {i p}, Anc u i p → i < n → Anc w i p := by
    intro i p h
    induction h with
    | refl _ => intro _; exact .refl _
    | @up i j x e _ ih =>
      intro hi
      have := hu.lt (k := i) (Nat.lt_trans hi (Nat.lt_of_lt_of_le hn hb))
      exact .up ((w1 _ hi).trans e) (ih (by omega))
  have a4 : ∀ {i p}, Anc u i p → i < N → b ≤ i → (p < n ∨ b ≤ p) → Anc w (i - (b - n)) (if p ≥ b then p - (b - n) else p) := by
    intro i p h
    induction h with
    | refl _ => intro h1 h2 h3; rw [if_pos h2]; exact .refl _
    | @up i j x e h4 ih =>
      intro hi h2 h3
      have hl := hu.lt hi
      have hx := hu.le (k := j) (by omega) h4
      have hw := w2 (i - (b - n)) (by omega) (by omega)
      rw [show i - (b - n) + (b - n) = i by omega, e] at hw
      rcases hreg i j h2 hi e with h5 | h5
      · rw [if_neg (by omega)] at hw
        rw [if_neg (by omega)]
        exact .up hw (a1 h4 h5)
      · rw [if_pos (by omega)] at hw
        exact .up (j := j - (b - n)) (by omega) (ih (by omega) h5 h3)
  refine ⟨fun _ => by rw [w1 0 h0]; exact hu.1 (by omega), fun i hi => ?_⟩
  rcases Nat.lt_trichotomy (i + 1) n with h1 | h1 | h1
  · obtain ⟨p, e, hp⟩ := hu.2 i (by omega)
    exact ⟨p, (w1 _ h1).trans e, a1 hp (by omega)⟩
  · obtain ⟨c, rfl⟩ : ∃ c, b = c + 1 := ⟨b - 1, by omega⟩
    subst h1
    obtain ⟨q, e, hq⟩ := hu.2 c (by omega)
    have ho := hout (by omega)
    have hci : Anc u c (i + 1) := by
      rcases Nat.lt_or_ge (i + 1) c with h2 | h2
      · exact hin c h2 (by omega)
      · have : c = i + 1 := by omega
        subst this; exact .refl _
    have h3 := hu.two hci (by omega) hq (by omega)
    have h4 : Anc u i q := by
      cases h3 with
      | refl _ => omega
      | up e3 h5 =>
        obtain ⟨k, e4, hk⟩ := hu.2 i (by omega)
        have e5 := e4.symm.trans e3
        rw [Int.natCast_inj] at e5
        subst e5
        exact hk.trans h5
    refine ⟨q, ?_, a1 h4 (by omega)⟩
    have hw := w2 (i + 1) (Nat.le_refl _) (by omega)
    rw [show i + 1 + (c + 1 - (i + 1)) = c + 1 by omega, e, if_neg (by omega)] at hw
    exact hw
  · obtain ⟨q, e, hq⟩ := hu.2 (i + (b - n)) (by omega)
    have h2 := hreg _ q (by omega) (by omega) e
    have h3 := a4 hq (by omega) (by omega) h2
    rw [show i + (b - n) - (b - n) = i by omega] at h3
    refine ⟨_, ?_, h3⟩
    have hw := w2 (i + 1) (by omega) (by omega)
    rw [show i + 1 + (b - n) = i + (b - n) + 1 by omega, e] at hw
    rw [hw]
    by_cases h4 : q ≥ b
    · rw [if_pos (by omega), if_pos h4]; omega
    · rw [if_neg (by omega), if_neg h4]

theorem Ups.part {N n b : Nat} (hu : Ups u N) (hn : n < b) (hb : b ≤ N) (hin : ∀ i, n < i → i < b → (n : Int) ≤ u i)
    (w1 : ∀ j, n + j < b → w j = max (u (n + j) - n) (-1)) : Ups w (b - n) := by
  have a5 : ∀ {i q}, Anc u i q → n ≤ q → i < b → Anc w (i - n) (q - n) := by
    intro i q h
    induction h with
    | refl _ => intro _ _; exact .refl _
    | @up i j x e h4 ih =>
      intro h1 h2
      have hl := hu.lt (k := i) (by omega)
      have hx := hu.le (k := j) (by omega) h4
      refine .up (j := j - n) ?_ (ih h1 (by omega))
      rw [w1 (i - n) (by omega), show n + (i - n) = i by omega, e]
      omega
  refine ⟨fun _ => ?_, fun i hi => ?_⟩
  · have := hu.lt (k := n) (by omega)
    rw [w1 0 (by omega), Nat.add_zero]
    omega
  · obtain ⟨q, e, hq⟩ := hu.2 (n + i) (by omega)
    have h1 := hin (n + i + 1) (by omega) (by omega)
    refine ⟨q - n, ?_, ?_⟩
    · rw [w1 (i + 1) (by omega), ← Nat.add_assoc, e]; omega
    · have := a5 hq (by omega) (by omega)
      rw [show n + i - n = i by omega] at this
      exact this
end
end Go.Hx
