/-
  Right documents: what lies under an element are the elements right behind it; its kids; its part. Plain Lean, no program in sight. No condition.
-/
import Derived.Test.YtjnagiaooecklaaDoorP13
set_option linter.all false
namespace Go.Hx

/-- Element k and what is above it. -/
def C (d : List Nd) (k : Int) : List Int := chain d d.length k

section
variable {d : List Nd} (hd : docOk d d.length = true)
include hd

theorem C_neg {k : Int} (h : k < 0) : C d k = [] := by
  unfold C
  cases d.length <;> simp [chain, h]

theorem C_step {k : Nat} (hk : k < d.length) : C d k = (k : Int) :: C d (upOf d k) := by
  unfold C
  have hu := docOk_up hd k hk
  obtain ⟨f, hf⟩ : ∃ f, d.length = f + 1 := ⟨d.length - 1, by omega⟩
  rw [hf]
  have e := chain_fuel (d := d) f (f + 1) (upOf d k) (fun j hj => (docOk_up hd j (by omega)).2) (by omega) (by omega)
  rw [← e]
  simp only [chain, Int.toNat_natCast]
  rw [if_neg (by omega)]

theorem C_le {k : Int} (hk : k < d.length) {x : Int} (hx : x ∈ C d k) : 0 ≤ x ∧ x ≤ k :=
  chain_bound d.length k (fun j hj => (docOk_up hd j (by omega)).2) x hx

theorem C_ind {p : Nat → Prop} (h : ∀ k, k < d.length → (∀ j : Nat, upOf d k = (j : Int) → j < k → p j) → p k) : ∀ k, k < d.length → p k := by
  intro k
  induction k using Nat.strongRecOn with
  | ind k ih => intro hk; exact h k hk fun j _ hj => ih j hj (by omega)

theorem up_cases {k : Nat} (hk : k < d.length) : upOf d k < 0 ∨ ∃ j : Nat, upOf d k = j ∧ j < k := by
  have := docOk_up hd k hk
  by_cases h : upOf d k < 0
  · exact .inl h
  · exact .inr ⟨(upOf d k).toNat, by omega, by omega⟩

theorem C_sub : ∀ k, k < d.length → ∀ {u x : Int}, u ∈ C d k → x ∈ C d u → x ∈ C d k := by
  refine C_ind hd fun k hk ih u x hu hx => ?_
  rw [C_step hd hk] at hu ⊢
  rcases List.mem_cons.1 hu with rfl | hu
  · rw [C_step hd hk] at hx; exact hx
  · refine List.mem_cons_of_mem _ ?_
    rcases up_cases hd hk with h | ⟨j, h, hj⟩
    · rw [C_neg hd h] at hu; cases hu
    · rw [h] at hu ⊢
      exact ih j h hj hu hx

/-- Of two above the same, the higher one is above the other's up. -/
theorem C_two : ∀ k, k < d.length → ∀ {i : Nat} {x : Int}, (i : Int) ∈ C d k → x ∈ C d k → x < i → x ∈ C d (upOf d i) := by
  refine C_ind hd fun k hk ih i x hi hx hlt => ?_
  have hb := C_le hd (by omega) hi
  rw [C_step hd hk] at hi hx
  rcases List.mem_cons.1 hi with e | hi
  · have e : i = k := by omega
    subst e
    exact (List.mem_cons.1 hx).resolve_left (by omega)
  · have hx := (List.mem_cons.1 hx).resolve_left (by omega)
    rcases up_cases hd hk with h | ⟨j, h, hj⟩
    · rw [C_neg hd h] at hi; cases hi
    · rw [h] at hi hx
      exact ih j h hj hi hx hlt

theorem up_mem {k : Nat} (hk : k + 1 < d.length) : upOf d (k + 1) ∈ C d k := by
  have h := range_all_get hd hk
  simp only [okAt, okUp, Bool.and_eq_true] at h
  have h2 := h.2
  rw [if_neg (by omega)] at h2
  have h3 : upOf d (k + 1) ∈ chain d (k + 1) (((k + 1 : Nat) : Int) - 1) := by simpa using h2
  rw [show (((k + 1 : Nat) : Int) - 1) = k by omega] at h3
  unfold C
  rw [chain_fuel d.length (k + 1) k (fun j hj => (docOk_up hd j (by omega)).2) (by omega) (by omega)]
  exact h3

omit hd in
theorem behF_spec {n : Nat} : ∀ (f e : Nat), e + f = d.length → (∀ k, e ≤ k → k < behF d n f e → (n : Int) ≤ upOf d k) ∧ (behF d n f e < d.length → upOf d (behF d n f e) < n)
  | 0, e, h => ⟨fun k h1 h2 => by simp [behF] at h2; omega, fun h2 => by simp [behF] at h2; omega⟩
  | f + 1, e, h => by
    simp only [behF]
    split
    · rename_i h1
      have ih := behF_spec (n := n) f (e + 1) (by omega)
      refine ⟨fun k h2 h3 => ?_, ih.2⟩
      by_cases e1 : k = e
      · subst e1; exact h1
      · exact ih.1 k (by omega) h3
    · rename_i h1
      exact ⟨fun k h2 h3 => by omega, fun _ => by omega⟩
omit hd in
theorem behind_in {n : Nat} (hn : n < d.length) {k : Nat} (h1 : n < k) (h2 : k < behind d n) : (n : Int) ≤ upOf d k :=
  (behF_spec (d.length - (n + 1)) (n + 1) (by omega)).1 k h1 h2
omit hd in
theorem behind_out {n : Nat} (hn : n < d.length) (h : behind d n < d.length) : upOf d (behind d n) < n :=
  (behF_spec (d.length - (n + 1)) (n + 1) (by omega)).2 h

theorem under_in {n : Nat} (hn : n < d.length) : ∀ k, k < d.length → n < k → k < behind d n → (n : Int) ∈ C d (upOf d k) := by
  refine C_ind hd fun k hk ih h1 h2 => ?_
  have h3 := behind_in hn h1 h2
  have hb := behind_le hn
  rcases up_cases hd hk with h | ⟨j, h, hj⟩
  · omega
  · rw [h] at h3 ⊢
    rw [C_step hd (by omega)]
    by_cases e : n = j
    · subst e; exact List.mem_cons_self
    · exact List.mem_cons_of_mem _ (ih j h hj (by omega) (by omega))

theorem under_out {n : Nat} (hn : n < d.length) : ∀ k, k < d.length → behind d n ≤ k → (n : Int) ∉ C d k := by
  have hb := behind_le hn
  intro k
  induction k with
  | zero => intro hk h1; omega
  | succ k ih =>
    intro hk h1 hx
    rw [C_step hd hk] at hx
    rcases List.mem_cons.1 hx with e | hx
    · omega
    · by_cases e : behind d n = k + 1
      · have := behind_out hn (by omega)
        rw [e] at this
        have := C_le hd (by omega) hx
        omega
      · exact ih (by omega) (by omega) (C_sub hd k (by omega) (up_mem hd hk) hx)
theorem under_out' {n : Nat} (hn : n < d.length) {k : Nat} (hk : k < d.length) (h : behind d n ≤ k) : (n : Int) ∉ C d (upOf d k) := by
  intro hx
  exact under_out hd hn k hk h (by rw [C_step hd hk]; exact List.mem_cons_of_mem _ hx)
theorem under_self {n : Nat} {k : Nat} (hk : k < d.length) (h : k ≤ n) : (n : Int) ∉ C d (upOf d k) := by
  intro hx
  have := docOk_up hd k hk
  have := C_le hd (by omega) hx
  omega

theorem under_eq {n : Nat} (hn : n < d.length) : ∀ k, k ≤ d.length → underTo d n k = if k ≤ n + 1 then 0 else if k ≤ behind d n then (k : Int) - n - 1 else (behind d n : Int) - n - 1 := by
  have hb := behind_le hn
  intro k
  induction k with
  | zero => intro _; simp [underTo]
  | succ k ih =>
    intro hk
    rw [underTo_succ, ih (by omega)]
    by_cases h1 : k ≤ n
    · have := under_self hd (n := n) (k := k) (by omega) h1
      unfold C at this
      simp [this]; omega
    · by_cases h2 : k < behind d n
      · have := under_in hd hn k (by omega) (by omega) h2
        unfold C at this
        simp [this]
        split <;> split <;> omega
      · have := under_out' hd hn (k := k) (by omega) (by omega)
        unfold C at this
        simp [this]
        split <;> split <;> omega
theorem underOf_eq {n : Nat} (hn : n < d.length) : underOf d n = (behind d n : Int) - n - 1 := by
  have hb := behind_le hn
  rw [underOf, under_eq hd hn _ (Nat.le_refl _)]
  split
  · omega
  · split <;> omega

omit hd in
theorem kidsTo_skip {n : Int} {a : Nat} : ∀ {b : Nat}, a ≤ b → (∀ j, a ≤ j → j < b → upOf d j ≠ n) → kidsTo d n b = kidsTo d n a
  | 0, h, _ => by rw [show a = 0 by omega]
  | b + 1, h, hs => by
    by_cases e : a = b + 1
    · rw [e]
    · rw [kidsTo_succ, if_neg (hs b (by omega) (by omega)), kidsTo_skip (by omega) fun j h1 h2 => hs j h1 (by omega)]

omit hd in
theorem behind_mono {n i : Nat} (hn : n < d.length) (h1 : n < i) (h2 : i < behind d n) : behind d i ≤ behind d n := by
  have hb := behind_le hn
  have hi : i < d.length := by omega
  apply Classical.byContradiction
  intro h3
  have hb2 := behind_le hi
  have h4 := behind_in hi (k := behind d n) (by omega) (by omega)
  have h5 := behind_out hn (by omega)
  omega

theorem next_kid {n i : Nat} (hn : n < d.length) (h1 : n < i) (h2 : i < behind d n) (h3 : upOf d i = n) (h4 : behind d i < behind d n) : upOf d (behind d i) = n := by
  have hb := behind_le hn
  have hi : i < d.length := by omega
  have hbi := behind_le hi
  have h5 := behind_in hn (k := behind d i) (by omega) h4
  have h6 := behind_out hi (by omega)
  obtain ⟨p, hp⟩ : ∃ p, behind d i = p + 1 := ⟨behind d i - 1, by omega⟩
  have h7 := up_mem hd (k := p) (by omega)
  rw [← hp] at h7
  have h8 : (i : Int) ∈ C d p := by
    rw [C_step hd (by omega)]
    by_cases e : i = p
    · subst e; exact List.mem_cons_self
    · exact List.mem_cons_of_mem _ (under_in hd hi p (by omega) (by omega) (by omega))
  have h9 := C_two hd p (by omega) h8 h7 h6
  rw [h3] at h9
  have := C_le hd (by omega) h9
  omega

theorem first_kid {n : Nat} (hn : n < d.length) (h : n + 1 < behind d n) : upOf d (n + 1) = n := by
  have hb := behind_le hn
  have h1 := behind_in hn (k := n + 1) (by omega) h
  have h2 := docOk_up hd (n + 1) (by omega)
  omega

theorem kidsF_eq {n : Nat} (hn : n < d.length) : ∀ (f i : Nat), n < i → i ≤ behind d n → (i < behind d n → upOf d i = n) → d.length ≤ i + f → kidsTo d n i ++ kidsF d n f i = kidsOf d n := by
  have hb := behind_le hn
  have hlast : kidsTo d n (behind d n) = kidsOf d n := by
    refine (kidsTo_skip hb.2 fun j h1 h2 e => ?_).symm
    have := under_out' hd hn h2 h1
    rw [e, C_step hd hn] at this
    exact this List.mem_cons_self
  intro f
  induction f with
  | zero =>
    intro i h1 h2 h3 h4
    have : i = behind d n := by omega
    subst this
    simp [kidsF, hlast]
  | succ f ih =>
    intro i h1 h2 h3 h4
    simp only [kidsF]
    split
    · rename_i h5
      have hi : i < d.length := by omega
      have hbi := behind_le hi
      have h6 := ih (behind d i) (by omega) (behind_mono hn h1 h5) (next_kid hd hn h1 h5 (h3 h5)) (by omega)
      have h7 : kidsTo d n (behind d i) = kidsTo d n (i + 1) := kidsTo_skip hbi.1 fun j h7 h8 => by
        have := behind_in hi (k := j) (by omega) h8
        omega
      rw [← h6, h7, kidsTo_succ, if_pos (h3 h5)]
      simp
    · have : i = behind d n := by omega
      subst this
      simp [hlast]
theorem docKids_eq {n : Nat} (hn : n < d.length) : docKids d n = kidsOf d n := by
  have hb := behind_le hn
  have h := kidsF_eq hd hn d.length (n + 1) (by omega) (by omega) (first_kid hd hn) (by omega)
  rw [kidsTo_skip (Nat.zero_le _) fun j _ h2 => by have := docOk_up hd j (by omega); omega] at h
  rw [docKids, ← h]; simp [kidsTo]

/-- Elements a up to b, moved by off. -/
def seg (d : List Nd) (off : Int) (a b : Nat) : List Nd := (List.range' a (b - a)).map fun j => { d.getD j default with up := upOf d j + off }
omit hd in
theorem seg_len (off : Int) (a b : Nat) : (seg d off a b).length = b - a := by simp [seg]
omit hd in
theorem seg_app (off : Int) {a b c : Nat} (h1 : a ≤ b) (h2 : b ≤ c) : seg d off a b ++ seg d off b c = seg d off a c := by
  unfold seg
  rw [← List.map_append]
  congr 1
  have := List.range'_append (s := a) (m := b - a) (n := c - b) (step := 1)
  rw [show a + 1 * (b - a) = b by omega, show b - a + (c - b) = c - a by omega] at this
  exact this
omit hd in
theorem seg_cons (off : Int) {a b : Nat} (h : a < b) : seg d off a b = { d.getD a default with up := upOf d a + off } :: seg d off (a + 1) b := by
  unfold seg
  rw [show b - a = (b - (a + 1)) + 1 by omega, List.range'_succ]
  rfl
omit hd in
theorem seg_nil (off : Int) (a : Nat) : seg d off a a = [] := by simp [seg]

theorem lay_kids {n : Nat} (hn : n < d.length) (f : Nat) (off : Int) (ih : ∀ i, n < i → i < d.length → ∀ (l : List Nd) (u : Int), (l.length : Int) = i + off → layT (treeF d f i) l u = l ++ { d.getD i default with up := u } :: seg d off (i + 1) (behind d i)) :
    ∀ (g i : Nat), n < i → i ≤ behind d n → (i < behind d n → upOf d i = n) → d.length ≤ i + g → ∀ l : List Nd, (l.length : Int) = i + off → layTs ((kidsF d n g i).map fun k => treeF d f k.toNat) l (n + off) = l ++ seg d off i (behind d n) := by
  have hb := behind_le hn
  intro g
  induction g with
  | zero =>
    intro i h1 h2 h3 h4 l hl
    have : i = behind d n := by omega
    subst this
    simp [kidsF, layTs, seg_nil]
  | succ g ihg =>
    intro i h1 h2 h3 h4 l hl
    simp only [kidsF]
    split
    · rename_i h5
      have hi : i < d.length := by omega
      have hbi := behind_le hi
      have hm := behind_mono hn h1 h5
      simp only [List.map_cons, layTs, Int.toNat_natCast]
      rw [ih i h1 hi l _ hl]
      have e : l ++ { d.getD i default with up := (n : Int) + off } :: seg d off (i + 1) (behind d i) = l ++ seg d off i (behind d i) := by
        rw [seg_cons off hbi.1, h3 h5]
      rw [e, ihg (behind d i) (by omega) hm (next_kid hd hn h1 h5 (h3 h5)) (by omega) _ (by rw [List.length_append, seg_len]; omega), List.append_assoc, seg_app off (by omega) hm]
    · have : i = behind d n := by omega
      subst this
      simp [layTs, seg_nil]

theorem lay_tree (off : Int) : ∀ (f n : Nat), n < d.length → d.length ≤ n + f → ∀ (l : List Nd) (u : Int), (l.length : Int) = n + off → layT (treeF d f n) l u = l ++ { d.getD n default with up := u } :: seg d off (n + 1) (behind d n)
  | 0, n, hn, h, l, u, hl => by omega
  | f + 1, n, hn, h, l, u, hl => by
    have hb := behind_le hn
    simp only [treeF, layT]
    rw [← docKids_eq hd hn, hl]
    rw [docKids, lay_kids hd hn f off (fun i h1 h2 l u hl => lay_tree off f i h2 (by omega) l u hl) d.length (n + 1) (by omega) (by omega) (first_kid hd hn) (by omega) _ (by simp; omega)]
    simp

theorem treeF_sz {n : Nat} (hn : n < d.length) : szT (treeF d d.length n) = behind d n - n := by
  have hb := behind_le hn
  have h1 := layT_len (treeF d d.length n) (List.replicate n default) 0
  rw [lay_tree hd 0 d.length n hn (by omega) (List.replicate n default) 0 (by simp)] at h1
  simp [seg_len] at h1
  omega

omit hd in
theorem cut_eq {a b : Nat} (h : a ≤ b) (hb : b ≤ d.length) : (d.take b).drop a = (List.range' a (b - a)).map fun j => d.getD j default := by
  apply List.ext_getElem
  · simp; omega
  · intro i h1 h2
    simp at h1 h2
    simp [show a + i < d.length by omega]

theorem docPart_eq {n : Nat} (hn : n < d.length) : docPart d n = partF d n := by
  have hb := behind_le hn
  rw [partF, lay_tree hd (-(n : Int)) d.length n hn (by omega) [] (-1) (by simp; omega), docPart, cut_eq (by omega) hb.2, List.nil_append]
  rw [show behind d n - n = (behind d n - (n + 1)) + 1 by omega, List.range'_succ, List.map_cons, List.map_cons, List.map_map]
  congr 1
  · have := docOk_up hd n hn
    simp only [turnUp]
    congr 1
    simp only [upOf] at this
    omega
  · unfold seg
    apply List.map_congr_left
    intro j hj
    rw [List.mem_range'_1] at hj
    have := behind_in hn (k := j) (by omega) (by omega)
    simp only [Function.comp, turnUp]
    congr 1
    simp only [upOf] at this ⊢
    omega
end
end Go.Hx
