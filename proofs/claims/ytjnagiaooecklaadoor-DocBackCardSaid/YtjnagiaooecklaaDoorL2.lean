/-
  Right documents: what is left when an element is removed. Plain Lean, no program in sight. No condition.
-/
import Derived.Test.YtjnagiaooecklaaDoorL1
set_option linter.all false
namespace Go.Hx

section
variable {d : List Nd} (hd : docOk d d.length = true)
include hd

theorem up_nonneg {k : Nat} (h0 : 0 < k) (hk : k < d.length) : 0 ≤ upOf d k := by
  obtain ⟨j, rfl⟩ : ∃ j, k = j + 1 := ⟨k - 1, by omega⟩
  exact (C_le hd (by omega) (up_mem hd hk)).1
theorem up_zero (h : 0 < d.length) : upOf d 0 = -1 := by
  have := range_all_get hd h
  simp only [okAt, okUp, Bool.and_eq_true] at this
  simpa using this.2
theorem behind_zero (h : 0 < d.length) : behind d 0 = d.length := by
  have hb := behind_le h
  apply Classical.byContradiction
  intro hne
  have h1 := behind_out h (by omega)
  have h2 := up_nonneg hd (k := behind d 0) (by omega) (by omega)
  omega

/-- Where an element lies when n, and all that is under it, is gone. -/
def pos (d : List Nd) (n : Nat) (j : Int) : Int := if j ≥ behind d n then j - behind d n + n else j
/-- Those of a up to b that are left. -/
def kept (d : List Nd) (n a b : Nat) : List Nd := ((List.range' a (b - a)).filter fun j => decide (j < n) || decide (behind d n ≤ j)).map fun j => { d.getD j default with up := pos d n (upOf d j) }
omit hd in
theorem kept_app (n : Nat) {a b c : Nat} (h1 : a ≤ b) (h2 : b ≤ c) : kept d n a b ++ kept d n b c = kept d n a c := by
  unfold kept
  rw [← List.map_append, ← List.filter_append]
  congr 2
  have := List.range'_append (s := a) (m := b - a) (n := c - b) (step := 1)
  rw [show a + 1 * (b - a) = b by omega, show b - a + (c - b) = c - a by omega] at this
  exact this
omit hd in
theorem kept_nil (n a : Nat) : kept d n a a = [] := by simp [kept]
omit hd in
theorem kept_cons {n a b : Nat} (h : a < b) (hk : a < n ∨ behind d n ≤ a) : kept d n a b = { d.getD a default with up := pos d n (upOf d a) } :: kept d n (a + 1) b := by
  unfold kept
  rw [show b - a = (b - (a + 1)) + 1 by omega, List.range'_succ, List.filter_cons_of_pos (by simpa using hk)]
  rfl
omit hd in
theorem kept_gone (n : Nat) : kept d n n (behind d n) = [] := by
  unfold kept
  rw [List.map_eq_nil_iff, List.filter_eq_nil_iff]
  intro j hj
  rw [List.mem_range'_1] at hj
  simp; omega
omit hd in
theorem kept_all {n a b : Nat} (h : b ≤ n ∨ behind d n ≤ a) : kept d n a b = (List.range' a (b - a)).map fun j => { d.getD j default with up := pos d n (upOf d j) } := by
  unfold kept
  congr 1
  rw [List.filter_eq_self]
  intro j hj
  rw [List.mem_range'_1] at hj
  simp; omega
omit hd in
theorem kept_len {n a b : Nat} (hn : n < d.length) (hab : a ≤ b) (ha : a ≤ n ∨ behind d n ≤ a) (hb : b ≤ n ∨ behind d n ≤ b) : ((kept d n a b).length : Int) = pos d n b - pos d n a := by
  have hbn := behind_le hn
  have h1 : ∀ {a b : Nat}, a ≤ b → (b ≤ n ∨ behind d n ≤ a) → (kept d n a b).length = b - a := by
    intro a b _ h
    rw [kept_all h]; simp
  unfold pos
  by_cases c1 : b ≤ n
  · rw [h1 hab (.inl c1), if_neg (by omega), if_neg (by omega)]; omega
  · by_cases c2 : behind d n ≤ a
    · rw [h1 hab (.inr c2), if_pos (by omega), if_pos (by omega)]; omega
    · have c3 : a ≤ n := by omega
      have c4 : behind d n ≤ b := by omega
      rw [← kept_app n c3 (by omega : n ≤ b), ← kept_app n (by omega : n ≤ behind d n) c4, kept_gone, List.length_append, List.nil_append, h1 c3 (.inl (Nat.le_refl _)), h1 c4 (.inr (Nat.le_refl _)), if_pos (by omega), if_neg (by omega)]
      omega

theorem rem_kids {n k : Nat} (hn : n < d.length) (hk : k < d.length) (hkept : k < n ∨ behind d n ≤ k) (f : Nat) (hkf : d.length ≤ k + (f + 1))
    (ih : ∀ i, k < i → i < d.length → (i < n ∨ behind d n ≤ i) → ∀ (l : List Nd) (u : Int), (l.length : Int) = pos d n i → layT (wosT (markF d f i) n) l u = l ++ { d.getD i default with up := u } :: kept d n (i + 1) (behind d i)) :
    ∀ (g i : Nat), k < i → i ≤ behind d k → (i < behind d k → upOf d i = k) → d.length ≤ i + g → ∀ l : List Nd, (l.length : Int) = pos d n i → layTs (wosTs ((kidsF d k g i).map fun j => markF d f j.toNat) n) l (pos d n k) = l ++ kept d n i (behind d k) := by
  have hb := behind_le hk
  have hbn := behind_le hn
  intro g
  induction g with
  | zero =>
    intro i h1 h2 h3 h4 l hl
    have : i = behind d k := by omega
    subst this
    simp [kidsF, wosTs, layTs, kept_nil]
  | succ g ihg =>
    intro i h1 h2 h3 h4 l hl
    simp only [kidsF]
    split
    · rename_i h5
      have hi : i < d.length := by omega
      have hbi := behind_le hi
      have hm := behind_mono hk h1 h5
      have hup := h3 h5
      have hnk := next_kid hd hk h1 h5 hup
      simp only [List.map_cons, wosTs, Int.toNat_natCast]
      have hf : ((markF d f i).nd.up = (n : Int)) ↔ i = n := by
        have : (markF d f i).nd.up = (i : Int) := markF_nd d f i (by omega)
        rw [this]; omega
      by_cases e : i = n
      · rw [if_pos (hf.2 e)]
        subst e
        rw [ihg (behind d i) (by omega) hm hnk (by omega) l (by rw [hl]; unfold pos; rw [if_neg (by omega), if_pos (by omega)]; omega)]
        rw [← kept_app i (by omega : i ≤ behind d i) hm, kept_gone, List.nil_append]
      · rw [if_neg (fun h => e (hf.1 h))]
        have hik : i < n ∨ behind d n ≤ i := by
          apply Classical.byContradiction
          intro hc
          have := behind_in hn (k := i) (by omega) (by omega)
          omega
        have hbik : behind d i ≤ n ∨ behind d n ≤ behind d i := by
          apply Classical.byContradiction
          intro hc
          have h6 : behind d i < behind d n := by omega
          have h7 := behind_in hn (k := behind d i) (by omega) h6
          have h8 := behind_out hi (by omega)
          omega
        simp only [layTs]
        rw [ih i h1 hi hik l _ hl]
        have e2 : l ++ { d.getD i default with up := pos d n k } :: kept d n (i + 1) (behind d i) = l ++ kept d n i (behind d i) := by
          rw [kept_cons hbi.1 hik, hup]
        have hlen := kept_len hn (Nat.le_of_lt hbi.1) (by omega : i ≤ n ∨ behind d n ≤ i) hbik
        rw [e2, ihg (behind d i) (by omega) hm hnk (by omega) _ (by rw [List.length_append]; omega), List.append_assoc, kept_app n (by omega) hm]
    · have : i = behind d k := by omega
      subst this
      simp [wosTs, layTs, kept_nil]

theorem rem_tree {n : Nat} (hn : n < d.length) : ∀ (f k : Nat), k < d.length → d.length ≤ k + f → (k < n ∨ behind d n ≤ k) → ∀ (l : List Nd) (u : Int), (l.length : Int) = pos d n k → layT (wosT (markF d f k) n) l u = l ++ { d.getD k default with up := u } :: kept d n (k + 1) (behind d k)
  | 0, k, hk, h, _, l, u, hl => by omega
  | f + 1, k, hk, h, hkept, l, u, hl => by
    have hb := behind_le hk
    have hbn := behind_le hn
    simp only [markF, wosT, layT]
    rw [← docKids_eq hd hk, hl]
    rw [docKids, rem_kids hd hn hk hkept f h (fun i h1 h2 h3 l u hl => rem_tree hn f i h2 (by omega) h3 l u hl) d.length (k + 1) (by omega) (by omega) (first_kid hd hk) (by omega) _ (by
      simp only [List.length_append, List.length_cons, List.length_nil]
      unfold pos at hl ⊢
      split at hl <;> split <;> omega)]
    simp

theorem docRemove_eq {n : Nat} (h0 : 0 < n) (hn : n < d.length) : docRemove d n = remF d n := by
  have hbn := behind_le hn
  have hb0 := behind_zero hd (by omega)
  rw [remF, show (0 : Nat) = (0 : Nat) from rfl, rem_tree hd hn d.length 0 (by omega) (by omega) (.inl h0) [] (-1) (by unfold pos; rw [if_neg (by omega)]; rfl), List.nil_append, hb0]
  have e : ({ d.getD 0 default with up := -1 } : Nd) :: kept d n 1 d.length = kept d n 0 d.length := by
    rw [kept_cons (by omega) (.inl h0), up_zero hd (by omega)]
    unfold pos
    rw [if_neg (by omega)]
  rw [e, ← kept_app n (Nat.zero_le n) (by omega : n ≤ d.length), ← kept_app n (by omega : n ≤ behind d n) hbn.2, kept_gone, List.nil_append, kept_all (.inl (Nat.le_refl _)), kept_all (.inr (Nat.le_refl _))]
  have c1 := cut_eq (d := d) (Nat.zero_le n) (Nat.le_of_lt hn)
  have c2 := cut_eq (d := d) hbn.2 (Nat.le_refl _)
  rw [List.drop_zero] at c1
  rw [List.take_length] at c2
  rw [docRemove, c1, c2]
  simp only [List.flatten_cons, List.flatten_nil, List.append_nil, List.map_map]
  rfl

omit hd in
theorem szT_mark : ∀ (f n : Nat), szT (markF d f n) = szT (treeF d f n)
  | 0, n => rfl
  | f + 1, n => by
    have h : ∀ ks : List Int, szTs (ks.map fun k => markF d f k.toNat) = szTs (ks.map fun k => treeF d f k.toNat) := by
      intro ks
      induction ks with
      | nil => rfl
      | cons k ks ih => simp only [List.map_cons, szTs]; rw [szT_mark f, ih]
    simp only [markF, treeF, szT]
    rw [h]
end
end Go.Hx
