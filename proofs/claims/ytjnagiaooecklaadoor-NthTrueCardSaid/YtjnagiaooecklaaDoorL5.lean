/-
  Counts, in plain Lean: a text of a count is read as it was, by the library's Atoi and by the document's reader; where a count holds. No program in sight. No condition.
-/
import Derived.Test.YtjnagiaooecklaaDoorPQ4
set_option linter.all false
namespace Go.Hx

def isDig (c : UInt8) : Bool := decide (48 ≤ c.toNat ∧ c.toNat ≤ 57)
def dval (n : Int) : Bys → Int
  | [] => n
  | c :: l => dval (10 * n + ((c.toNat : Int) - 48)) l
theorem dval_app (n : Int) (l r : Bys) : dval n (l ++ r) = dval (dval n l) r := by
  induction l generalizing n with
  | nil => rfl
  | cons c l ih => exact ih _
theorem dig_toNat {d : Nat} (h : d < 10) : (UInt8.ofNat (48 + d)).toNat = 48 + d := by
  rw [UInt8.toNat_ofNat']; omega
theorem dd_step {u : Nat} (h : ¬ u < 10) : Lib.decDigits u = Lib.decDigits (u / 10) ++ [UInt8.ofNat (48 + u % 10)] := by
  rw [Lib.decDigits, dif_neg h]
theorem dd_dig : ∀ (u : Nat), ∀ c ∈ Lib.decDigits u, isDig c = true := by
  intro u
  induction u using Nat.strongRecOn with
  | ind u ih =>
    intro c hc
    by_cases h : u < 10
    · rw [Lib.decDigits_one h, List.mem_singleton] at hc
      subst hc
      unfold isDig
      rw [dig_toNat h]
      simp; omega
    · rw [dd_step h] at hc
      rcases List.mem_append.1 hc with hc | hc
      · exact ih (u / 10) (by omega) c hc
      · rw [List.mem_singleton] at hc
        subst hc
        unfold isDig
        rw [dig_toNat (by omega)]
        simp; omega
theorem dd_val : ∀ (u : Nat), dval 0 (Lib.decDigits u) = u := by
  intro u
  induction u using Nat.strongRecOn with
  | ind u ih =>
    by_cases h : u < 10
    · rw [Lib.decDigits_one h]
      simp only [dval]
      rw [dig_toNat h]; omega
    · rw [dd_step h, dval_app, ih (u / 10) (by omega)]
      simp only [dval]
      rw [dig_toNat (by omega)]; omega
theorem dd_ne (u : Nat) : Lib.decDigits u ≠ [] := by
  intro h
  have := Lib.decDigits_length u
  rw [h] at this
  have := Lib.nDigits_pos u
  simp at *
  omega
theorem dd_head (u : Nat) : ∃ c l, Lib.decDigits u = c :: l ∧ isDig c = true := by
  cases h : Lib.decDigits u with
  | nil => exact absurd h (dd_ne u)
  | cons c l => exact ⟨c, l, rfl, dd_dig u c (by rw [h]; exact List.mem_cons_self)⟩
theorem nd_le : ∀ (k u : Nat), 0 < k → u < 10 ^ k → Lib.nDigits u ≤ k
  | 0, u, h, _ => by omega
  | k + 1, u, _, h => by
    by_cases h1 : u < 10
    · rw [Lib.nDigits_small h1]; omega
    · rw [Lib.nDigits_big h1]
      have h2 : u / 10 < 10 ^ k := by
        rw [Nat.pow_succ] at h
        omega
      have h3 : 0 < k := by
        rcases Nat.eq_zero_or_pos k with e | e
        · subst e; simp at h; omega
        · exact e
      have := nd_le k (u / 10) h3 h2
      omega
theorem dd_len {u : Nat} (h : u ≤ 1048576) : (Lib.decDigits u).length ≤ 8 := by
  rw [Lib.decDigits_length]
  exact nd_le 8 u (by omega) (by omega)

theorem numF_dig : ∀ (l : Bys) (f : Nat) (n : Int) (r : Bys), (∀ c ∈ l, isDig c = true) → l.length ≤ f → numF f n (l ++ r) = numF (f - l.length) (dval n l) r
  | [], f, n, r, _, _ => rfl
  | c :: l, 0, n, r, _, h => by simp at h
  | c :: l, f + 1, n, r, hd, h => by
    have hc := hd c List.mem_cons_self
    simp only [isDig, decide_eq_true_eq] at hc
    simp only [List.cons_append, numF, if_pos hc, List.length_cons, dval]
    rw [numF_dig l f _ r (fun x hx => hd x (List.mem_cons_of_mem _ hx)) (by simpa using h), Nat.add_sub_add_right]
theorem numF_stop (f : Nat) (n : Int) (r : Bys) (h : ∀ c l, r = c :: l → isDig c = false) : numF f n r = (n, r) := by
  cases f with
  | zero => rfl
  | succ f =>
    cases r with
    | nil => rfl
    | cons c l =>
      have := h c l rfl
      simp only [isDig, decide_eq_false_iff_not] at this
      simp only [numF, if_neg this]
theorem numR_dd {u : Nat} (h : u ≤ 1048576) {r : Bys} (hr : ∀ c l, r = c :: l → isDig c = false) : numR (Lib.decDigits u ++ r) = ((u : Int), r) := by
  unfold numR
  rw [numF_dig _ _ _ _ (dd_dig u) (dd_len h), numF_stop _ _ _ hr, dd_val]

theorem signOk_cons (c d : UInt8) (s : Bys) : signOk (c :: s) [d] = (c == d) := by
  simp [signOk]
theorem signR_cons (c d : UInt8) (s : Bys) : signR (c :: s) [d] = if (c == d) = true then s else c :: s := by
  unfold signR
  rw [signOk_cons]
  rfl
theorem dig_ne {c : UInt8} (h : isDig c = true) {d : UInt8} (hd : isDig d = false) : (c == d) = false := by
  rw [beq_eq_false_iff_ne]
  rintro rfl
  rw [h] at hd; cases hd

/-! ### Atoi -/

theorem decFrom_app (l r : Bys) : ∀ acc, Lib.decFrom acc (l ++ r) = (Lib.decFrom acc l).bind fun m => Lib.decFrom m r := by
  induction l with
  | nil => intro acc; rfl
  | cons c l ih =>
    intro acc
    simp only [List.cons_append, Lib.decFrom]
    cases Lib.digitVal c with
    | none => rfl
    | some d => exact ih _
theorem digitVal_dig {d : Nat} (h : d < 10) : Lib.digitVal (UInt8.ofNat (48 + d)) = some d := by
  unfold Lib.digitVal
  rw [dig_toNat h, if_pos (by omega)]
  congr 1; omega
theorem decFrom_dd : ∀ (u : Nat), Lib.decFrom 0 (Lib.decDigits u) = some u := by
  intro u
  induction u using Nat.strongRecOn with
  | ind u ih =>
    by_cases h : u < 10
    · rw [Lib.decDigits_one h]
      simp only [Lib.decFrom, digitVal_dig h]
      congr 1; omega
    · rw [dd_step h, decFrom_app, ih (u / 10) (by omega)]
      simp only [Option.bind_some, Lib.decFrom, digitVal_dig (show u % 10 < 10 by omega)]
      congr 1; omega
theorem decNat_dd (u : Nat) : Lib.decNat (Lib.decDigits u) = some u := by
  unfold Lib.decNat
  obtain ⟨c, l, e, _⟩ := dd_head u
  rw [if_neg (by rw [e]; simp), decFrom_dd]
theorem atoiV_of {l : Bys} {n : Int} (hl : l.length ≤ 18) (h : Lib.atoi l = some n) : atoiV l = n := by
  unfold atoiV
  rw [Lib.atoiAll_short l hl, h]
  rfl
theorem atoi_plain (u : Nat) : Lib.atoi (Lib.decDigits u) = some (u : Int) := by
  obtain ⟨c, l, e, hc⟩ := dd_head u
  have h := decNat_dd u
  rw [e] at h ⊢
  simp only [Lib.atoi, dig_ne hc (show isDig 45 = false by decide), dig_ne hc (show isDig 43 = false by decide), Bool.false_eq_true, if_false, h, Option.map_some]
theorem atoi_plus (u : Nat) : Lib.atoi (43 :: Lib.decDigits u) = some (u : Int) := by
  simp only [Lib.atoi, decNat_dd, Option.map_some]
  rfl
theorem atoi_minus (u : Nat) : Lib.atoi (45 :: Lib.decDigits u) = some (-(u : Int)) := by
  simp only [Lib.atoi, decNat_dd, Option.map_some]
  rfl

/-- The second number, with its sign. -/
def sgnB (b : Int) : Bys := (if 0 ≤ b then [43] else []) ++ Lib.itoa b
theorem sgnB_pos {b : Int} (h : 0 ≤ b) : sgnB b = 43 :: Lib.decDigits b.toNat := by
  unfold sgnB Lib.itoa
  rw [if_pos h, if_neg (by omega)]; rfl
theorem sgnB_neg {b : Int} (h : b < 0) : sgnB b = 45 :: Lib.decDigits b.natAbs := by
  unfold sgnB Lib.itoa
  rw [if_neg (by omega), if_pos h]; rfl
theorem nthText_eq (a b : Int) : nthText a b = Lib.itoa a ++ 110 :: sgnB b := by
  unfold nthText sgnB
  simp
theorem atoiV_itoa {a : Int} (h : -1048576 ≤ a ∧ a ≤ 1048576) : atoiV (Lib.itoa a) = a := by
  unfold Lib.itoa
  split
  · have := dd_len (u := a.natAbs) (by omega)
    rw [atoiV_of (by rw [List.length_cons]; omega) (atoi_minus _)]; omega
  · have := dd_len (u := a.toNat) (by omega)
    rw [atoiV_of (by omega) (atoi_plain _)]; omega
theorem atoiV_sgnB {b : Int} (h : -1048576 ≤ b ∧ b ≤ 1048576) : atoiV (sgnB b) = b := by
  by_cases hb : 0 ≤ b
  · have := dd_len (u := b.toNat) (by omega)
    rw [sgnB_pos hb, atoiV_of (by rw [List.length_cons]; omega) (atoi_plus _)]; omega
  · have := dd_len (u := b.natAbs) (by omega)
    rw [sgnB_neg (by omega), atoiV_of (by rw [List.length_cons]; omega) (atoi_minus _)]; omega
theorem itoa_no110 (a : Int) : ∀ c ∈ Lib.itoa a, c ≠ 110 := by
  intro c hc
  have hd : ∀ u, c ∈ Lib.decDigits u → c ≠ 110 := fun u hu e => by
    have := dd_dig u c hu
    rw [e] at this
    exact absurd this (by decide)
  unfold Lib.itoa at hc
  split at hc
  · rcases List.mem_cons.1 hc with rfl | hc
    · decide
    · exact hd _ hc
  · exact hd _ hc
theorem index_at : ∀ (l r : Bys), (∀ c ∈ l, c ≠ 110) → Lib.indexByte (l ++ 110 :: r) 110 = l.length
  | [], r, _ => by simp [Lib.indexByte]
  | c :: l, r, h => by
    have ih := index_at l r fun x hx => h x (List.mem_cons_of_mem _ hx)
    have hc : (c == 110) = false := by simpa using h c List.mem_cons_self
    simp only [List.cons_append, Lib.indexByte, hc, ih, List.length_cons]
    rw [if_neg (by simp), if_neg (by simp)]
    omega
theorem cut_text (a b : Int) : Lib.cut (nthText a b) [110] = (Lib.itoa a, sgnB b, true) := by
  unfold Lib.cut
  rw [nthText_eq, Lib.index_one, index_at _ _ (itoa_no110 a), if_pos (by omega)]
  simp
theorem cut_back {a b : Int} (h : nthE a b = 0) : cutA (nthText a b) = a ∧ cutB (nthText a b) = b := by
  obtain ⟨h1, h2⟩ := nthE_ok h
  unfold cutA cutB
  rw [cut_text]
  exact ⟨atoiV_itoa h1, atoiV_sgnB h2⟩
theorem readOk_text {a b : Int} (h : nthE a b = 0) : readOk (nthText a b) = true := by
  obtain ⟨h1, h2⟩ := cut_back h
  unfold readOk
  rw [h1, h2]
  exact decide_eq_true ⟨h, rfl⟩

/-! ### The document's reader -/

theorem rdA_text {a : Int} (h : -1048576 ≤ a ∧ a ≤ 1048576) (r : Bys) : rdA (Lib.itoa a ++ 110 :: r) = (a, 110 :: r) := by
  have hst : ∀ c l, (110 : UInt8) :: r = c :: l → isDig c = false := by
    intro c l e
    injection e with e1 _
    subst e1; decide
  unfold rdA Lib.itoa
  by_cases h0 : a < 0
  · rw [if_pos h0]
    simp only [List.cons_append, signOk_cons, signR_cons, beq_self_eq_true, if_true]
    rw [numR_dd (u := a.natAbs) (by omega) hst]
    simp only [Prod.mk.injEq, and_true]; omega
  · rw [if_neg h0]
    obtain ⟨c, l, e, hc⟩ := dd_head a.toNat
    have hn := dig_ne hc (show isDig 45 = false by decide)
    have h3 := numR_dd (u := a.toNat) (r := 110 :: r) (by omega) hst
    rw [e] at h3 ⊢
    simp only [List.cons_append] at h3 ⊢
    simp only [signOk_cons, signR_cons, hn, Bool.false_eq_true, if_false, h3]
    simp only [Prod.mk.injEq, and_true]; omega
theorem rdB_text {b : Int} (h : -1048576 ≤ b ∧ b ≤ 1048576) : rdB (sgnB b) = (b, []) := by
  have hst : ∀ (c : UInt8) (l : Bys), [] = c :: l → isDig c = false := by intro c l e; cases e
  unfold rdB
  by_cases h0 : 0 ≤ b
  · rw [sgnB_pos h0]
    have h3 := numR_dd (u := b.toNat) (r := []) (by omega) hst
    rw [List.append_nil] at h3
    simp only [signOk_cons, signR_cons, beq_self_eq_true, if_true, show ((43 : UInt8) == 45) = false from rfl, Bool.false_eq_true, if_false, h3]
    simp only [Prod.mk.injEq, and_true]; omega
  · rw [sgnB_neg (by omega)]
    obtain ⟨c, l, e, hc⟩ := dd_head b.natAbs
    have hn := dig_ne hc (show isDig 43 = false by decide)
    have h3 := numR_dd (u := b.natAbs) (r := []) (by omega) hst
    rw [List.append_nil, e] at h3
    simp only [signOk_cons, signR_cons, beq_self_eq_true, if_true, e, hn, Bool.false_eq_true, if_false, h3]
    simp only [Prod.mk.injEq, and_true]; omega
theorem rdNth_text {a b : Int} (h : nthE a b = 0) : (rdNth (nthText a b)).1 = (a, b) := by
  obtain ⟨h1, h2⟩ := nthE_ok h
  unfold rdNth
  rw [nthText_eq, rdA_text h1]
  simp only [signR_cons, beq_self_eq_true, if_true]
  rw [rdB_text h2]

/-- BOTH READ THE SAME. -/
theorem read_from (s : Bys) : fromOk s = readOk s ∧ (readOk s = true → (rdNth s).1 = (cutA s, cutB s)) := by
  by_cases h : readOk s = true
  · have h1 : nthE (cutA s) (cutB s) = 0 ∧ nthText (cutA s) (cutB s) = s := of_decide_eq_true h
    have h2 := rdNth_text h1.1
    rw [h1.2] at h2
    refine ⟨?_, fun _ => h2⟩
    rw [h]
    unfold fromOk
    rw [h2]
    exact decide_eq_true h1
  · refine ⟨?_, fun hc => absurd hc h⟩
    have h' : readOk s = false := by simpa using h
    rw [h']
    refine decide_eq_false fun hc => h ?_
    rw [← hc.2]
    exact readOk_text hc.1

/-! ### Where a count holds -/

theorem tmod0 {x y : Int} (_ : y ≠ 0) : x.tmod y = 0 ↔ ∃ k, x = y * k := by
  constructor
  · intro h; exact ⟨x.tdiv y, by have := Int.mul_tdiv_add_tmod x y; omega⟩
  · rintro ⟨k, rfl⟩; exact Int.mul_tmod_right y k
theorem holds_iff {a b i : Int} (he : nthE a b = 0) (hi : 1 ≤ i ∧ i ≤ 1073741824) : nthHolds a b i = true ↔ ∃ k : Int, 0 ≤ k ∧ i = b + a * k := by
  unfold nthHolds
  rw [decide_eq_true ⟨he, hi⟩, Bool.true_and]
  by_cases ha : a = 0
  · subst ha
    rw [if_pos rfl, decide_eq_true_eq]
    constructor
    · intro h; exact ⟨0, by omega, by omega⟩
    · rintro ⟨k, _, h⟩; rw [Int.zero_mul] at h; omega
  · rw [if_neg ha, Bool.and_eq_true, decide_eq_true_eq, decide_eq_true_eq, tmod0 ha]
    constructor
    · rintro ⟨⟨k, hk⟩, h2⟩
      rw [hk, Int.mul_tdiv_cancel_left _ ha] at h2
      exact ⟨k, h2, by omega⟩
    · rintro ⟨k, hk, h⟩
      have e : i - b = a * k := by omega
      exact ⟨⟨k, e⟩, by rw [e, Int.mul_tdiv_cancel_left _ ha]; exact hk⟩
theorem ref_iff {a b i : Int} (he : nthE a b = 0) (hi : 1 ≤ i ∧ i ≤ 1073741824) : refHolds a b i = true ↔ ∃ k : Int, 0 ≤ k ∧ i = b + a * k := by
  unfold refHolds
  rw [if_pos ⟨he, hi⟩]
  by_cases h1 : a = 0 ∨ i = b
  · rw [if_pos h1, decide_eq_true_eq]
    constructor
    · intro h; exact ⟨0, by omega, by omega⟩
    · rintro ⟨k, _, h⟩
      rcases h1 with rfl | h1
      · rw [Int.zero_mul] at h; omega
      · exact h1
  · rw [if_neg h1]
    have ha : a ≠ 0 := fun h => h1 (.inl h)
    by_cases h2 : 0 < a
    · rw [if_pos h2, Bool.and_eq_true, decide_eq_true_eq, decide_eq_true_eq, tmod0 ha]
      constructor
      · rintro ⟨h3, k, hk⟩
        refine ⟨k, ?_, by omega⟩
        apply Classical.byContradiction
        intro hn
        have := Int.mul_nonpos_of_nonneg_of_nonpos (show 0 ≤ a by omega) (show k ≤ 0 by omega)
        omega
      · rintro ⟨k, hk, h⟩
        refine ⟨?_, k, by omega⟩
        have := Int.mul_nonneg (show 0 ≤ a by omega) hk
        omega
    · rw [if_neg h2, Bool.and_eq_true, decide_eq_true_eq, decide_eq_true_eq, tmod0 (by omega)]
      constructor
      · rintro ⟨h3, k, hk⟩
        refine ⟨k, ?_, ?_⟩
        · apply Classical.byContradiction
          intro hn
          have := Int.mul_nonpos_of_nonneg_of_nonpos (show 0 ≤ -a by omega) (show k ≤ 0 by omega)
          omega
        · rw [Int.neg_mul] at hk; omega
      · rintro ⟨k, hk, h⟩
        refine ⟨?_, k, by rw [Int.neg_mul]; omega⟩
        have := Int.mul_nonneg (show 0 ≤ -a by omega) hk
        rw [Int.neg_mul] at this
        omega
theorem holds_eq (a b i : Int) : nthHolds a b i = refHolds a b i := by
  by_cases h : nthE a b = 0 ∧ 1 ≤ i ∧ i ≤ 1073741824
  · have h1 := holds_iff h.1 h.2
    have h2 := ref_iff h.1 h.2
    rw [Bool.eq_iff_iff, h1, h2]
  · unfold nthHolds refHolds
    rw [decide_eq_false h, if_neg h, Bool.false_and]
end Go.Hx
