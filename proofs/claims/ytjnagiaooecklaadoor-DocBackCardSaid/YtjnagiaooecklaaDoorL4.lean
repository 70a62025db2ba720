/-
  Right documents, on lists: insert, then part and remove; remove, then insert. Plain Lean, no program in sight. No condition.
-/
import Derived.Test.YtjnagiaooecklaaDoorL3
set_option linter.all false
namespace Go.Hx

theorem getD_lt {α : Type} {l : List α} {d : α} {i : Nat} (h : i < l.length) : l.getD i d = l[i] := by simp [h]
theorem upOf_app {a b : List Nd} {i : Nat} : upOf (a ++ b) i = if i < a.length then upOf a i else upOf b (i - a.length) := by
  unfold upOf
  split
  · rename_i h
    rw [List.getD_eq_getElem?_getD, List.getElem?_append_left h, ← List.getD_eq_getElem?_getD]
  · rename_i h
    rw [List.getD_eq_getElem?_getD, List.getElem?_append_right (by omega), ← List.getD_eq_getElem?_getD]
theorem upOf_map {g : Int → Int} {l : List Nd} {i : Nat} (h : i < l.length) : upOf (l.map (turnUp g)) i = g (upOf l i) := by
  simp [upOf, h, turnUp]
theorem upOf_take {d : List Nd} {n i : Nat} (h : i < n) : upOf (d.take n) i = upOf d i := by
  simp [upOf, h]
theorem upOf_drop {d : List Nd} {n i : Nat} : upOf (d.drop n) i = upOf d (n + i) := by
  simp [upOf, List.getElem?_drop]
theorem turn_turn {f g : Int → Int} {l : List Nd} (h : ∀ x ∈ l, f (g x.up) = x.up) : (l.map (turnUp g)).map (turnUp f) = l := by
  rw [List.map_map]
  refine (List.map_congr_left fun x hx => ?_).trans (List.map_id l)
  simp only [Function.comp, turnUp, h x hx, id]
theorem turn_same {g : Int → Int} {l : List Nd} (h : ∀ x ∈ l, g x.up = x.up) : l.map (turnUp g) = l := by
  refine (List.map_congr_left fun x hx => ?_).trans (List.map_id l)
  simp only [turnUp, h x hx, id]
theorem mem_ix {d : List Nd} {x : Nd} (h : x ∈ d) : ∃ i, i < d.length ∧ x.up = upOf d i := by
  obtain ⟨i, hi, rfl⟩ := List.mem_iff_getElem.1 h
  exact ⟨i, hi, by simp [upOf, hi]⟩
theorem mem_take_ix {d : List Nd} {n : Nat} {x : Nd} (h : x ∈ d.take n) : ∃ i, i < n ∧ i < d.length ∧ x.up = upOf d i := by
  obtain ⟨i, hi, e⟩ := mem_ix h
  rw [List.length_take] at hi
  rw [upOf_take (by omega)] at e
  exact ⟨i, by omega, by omega, e⟩
theorem mem_drop_ix {d : List Nd} {n : Nat} {x : Nd} (h : x ∈ d.drop n) : ∃ i, n ≤ i ∧ i < d.length ∧ x.up = upOf d i := by
  obtain ⟨i, hi, e⟩ := mem_ix h
  rw [List.length_drop] at hi
  rw [upOf_drop] at e
  exact ⟨n + i, by omega, by omega, e⟩
theorem mem_cut_ix {d : List Nd} {n b : Nat} {x : Nd} (h : x ∈ (d.take b).drop n) : ∃ i, n ≤ i ∧ i < b ∧ i < d.length ∧ x.up = upOf d i := by
  obtain ⟨i, h1, h2, e⟩ := mem_drop_ix h
  rw [List.length_take] at h2
  rw [upOf_take (by omega)] at e
  exact ⟨i, h1, by omega, by omega, e⟩
theorem fine_turn {g : Int → Int} {l : List Nd} (h : ∀ x ∈ l, nodeFine x = true) : ∀ x ∈ l.map (turnUp g), nodeFine x = true := by
  intro x hx
  obtain ⟨y, hy, rfl⟩ := List.mem_map.1 hx
  exact h y hy

theorem behind_uniq {d : List Nd} {n m : Nat} (h1 : n < m) (h2 : m ≤ d.length) (h3 : ∀ k, n < k → k < m → (n : Int) ≤ upOf d k) (h4 : m < d.length → upOf d m < n) : behind d n = m := by
  have hn : n < d.length := by omega
  have hb := behind_le hn
  rcases Nat.lt_trichotomy (behind d n) m with h | h | h
  · have := behind_out hn (by omega)
    have := h3 _ hb.1 h
    omega
  · exact h
  · have := behind_in hn h1 h
    have := h4 (by omega)
    omega

/-! ### Kids, in order -/

theorem kidsTo_pre {d : List Nd} {n : Int} {a b : Nat} (h : a ≤ b) : ∃ r, kidsTo d n b = kidsTo d n a ++ r := by
  induction b with
  | zero => exact ⟨[], by rw [show a = 0 by omega]; simp⟩
  | succ b ih =>
    by_cases e : a = b + 1
    · exact ⟨[], by rw [e]; simp⟩
    · obtain ⟨r, hr⟩ := ih (by omega)
      rw [kidsTo_succ, hr]
      split
      · exact ⟨r ++ [(b : Int)], by simp⟩
      · exact ⟨r, rfl⟩
theorem kidsTo_lt {d : List Nd} {n : Int} {a : Nat} : ∀ x ∈ kidsTo d n a, 0 ≤ x ∧ x < a := by
  intro x hx
  obtain ⟨i, hi, rfl⟩ := List.mem_map.1 hx
  have := List.mem_range.1 (List.mem_filter.1 hi).1
  simp only [Int.ofNat_eq_natCast]
  omega
theorem kidsTo_at {d : List Nd} {n : Int} : ∀ (b at' : Nat), at' < (kidsTo d n b).length → ∃ m : Nat, (kidsTo d n b).getD at' 0 = m ∧ upOf d m = n ∧ m < b ∧ (kidsTo d n m).length = at'
  | 0, at', h => by simp [kidsTo] at h
  | b + 1, at', h => by
    rw [kidsTo_succ] at h ⊢
    split
    · rename_i h1
      rw [if_pos h1] at h
      by_cases h2 : at' < (kidsTo d n b).length
      · obtain ⟨m, e1, e2, e3, e4⟩ := kidsTo_at b at' h2
        refine ⟨m, ?_, e2, by omega, e4⟩
        rw [List.getD_eq_getElem?_getD, List.getElem?_append_left h2, ← List.getD_eq_getElem?_getD, e1]
      · rw [List.length_append, List.length_singleton] at h
        have h3 : at' = (kidsTo d n b).length := by omega
        subst h3
        exact ⟨b, by simp, h1, by omega, rfl⟩
    · rename_i h1
      rw [if_neg h1] at h
      obtain ⟨m, e1, e2, e3, e4⟩ := kidsTo_at b at' h
      exact ⟨m, e1, e2, by omega, e4⟩
theorem kidsTo_same {d e : List Nd} {n : Int} {a : Nat} (h : ∀ i, i < a → upOf d i = upOf e i) : kidsTo d n a = kidsTo e n a := by
  unfold kidsTo
  congr 1
  refine List.filter_congr fun i hi => ?_
  rw [h i (List.mem_range.1 hi)]

section
variable {d : List Nd} (hd : docOk d d.length = true)
include hd
theorem kids_to_behind {k : Nat} (hk : k < d.length) : kidsTo d k (behind d k) = kidsOf d k := by
  have hb := behind_le hk
  refine (kidsTo_skip hb.2 fun j h1 h2 e => ?_).symm
  have := under_out' hd hk h2 h1
  rw [e, C_step hd hk] at this
  exact this List.mem_cons_self
/-- A place for a kid of k. -/
theorem place_at {k at' : Nat} (hk : k < d.length) (h : at' < (docPlaces d k).length) : ∃ n : Nat, (docPlaces d k).getD at' 0 = n ∧ k < n ∧ n ≤ d.length ∧ Anc (upOf d) (n - 1) k ∧ (n < d.length → upOf d n ≤ k) ∧ (kidsTo d k n).length = at' := by
  have hb := behind_le hk
  have hu := (docOk_iff.1 hd).2
  have key : ∀ n, k < n → n ≤ behind d k → Anc (upOf d) (n - 1) k := by
    intro n h1 h2
    rw [← C_anc hd (by omega)]
    rcases Nat.lt_or_ge k (n - 1) with h3 | h3
    · rw [C_step hd (by omega)]
      exact List.mem_cons_of_mem _ (under_in hd hk (n - 1) (by omega) h3 (by omega))
    · have : n - 1 = k := by omega
      rw [this, C_step hd hk]
      exact List.mem_cons_self
  unfold docPlaces at h ⊢
  rw [docKids_eq hd hk] at h ⊢
  by_cases h1 : at' < (kidsOf d k).length
  · obtain ⟨m, e1, e2, e3, e4⟩ := kidsTo_at d.length at' h1
    rw [List.getD_eq_getElem?_getD, List.getElem?_append_left h1, ← List.getD_eq_getElem?_getD]
    have hm := hu.lt e3
    have hmb : m < behind d k := by
      apply Classical.byContradiction
      intro hc
      have := under_out' hd hk e3 (by omega)
      rw [e2, C_step hd hk] at this
      exact this List.mem_cons_self
    exact ⟨m, e1, by omega, by omega, key m (by omega) (by omega), fun _ => by omega, e4⟩
  · rw [List.length_append, List.length_singleton] at h
    have h2 : at' = (kidsOf d k).length := by omega
    subst h2
    refine ⟨behind d k, by simp, hb.1, hb.2, key _ hb.1 (Nat.le_refl _), fun h3 => ?_, by rw [kids_to_behind hd hk]⟩
    have := behind_out hk h3
    omega
theorem at_place {k n : Nat} (hk : k < n) (hn : n ≤ d.length) (ha : Anc (upOf d) (n - 1) k) (hs : n < d.length → upOf d n ≤ k) : (kidsTo d k n).length < (docPlaces d k).length ∧ (docPlaces d k).getD (kidsTo d k n).length 0 = n := by
  have hkl : k < d.length := by omega
  have hb := behind_le hkl
  have hnb : n ≤ behind d k := by
    apply Classical.byContradiction
    intro hc
    exact under_out hd hkl (n - 1) (by omega) (by omega) ((C_anc hd (by omega)).2 ha)
  unfold docPlaces
  rw [docKids_eq hd hkl, ← kids_to_behind hd hkl]
  by_cases h : n = behind d k
  · rw [← h]; simp
  · have h1 := behind_in hkl hk (by omega)
    have h2 := hs (by omega)
    obtain ⟨r, hr⟩ := kidsTo_pre (d := d) (n := (k : Int)) (show n + 1 ≤ behind d k by omega)
    rw [hr, kidsTo_succ, if_pos (by omega)]
    simp
end

/-! ### Inserted, and gone again -/

section
variable {d e : List Nd} {n k : Nat}
theorem ins_app : docInsertAt d k n e = (d.take n).map (turnUp fun j => if j ≥ n then j + e.length else j) ++ (e.map (turnUp fun j => if j < 0 then (k : Int) else j + n) ++ (d.drop n).map (turnUp fun j => if j ≥ n then j + e.length else j)) := by
  simp [docInsertAt]
theorem ins_len (hn : n ≤ d.length) : (docInsertAt d k n e).length = d.length + e.length := by
  rw [ins_app]; simp; omega
theorem ins_up1 (hu : Ups (upOf d) d.length) (hn : n ≤ d.length) {i : Nat} (h : i < n) : upOf (docInsertAt d k n e) i = upOf d i := by
  rw [ins_app, upOf_app, if_pos (by simp; omega), upOf_map (by simp; omega), upOf_take h]
  have := hu.lt (k := i) (by omega)
  rw [if_neg (by omega)]
theorem ins_up2 (hn : n ≤ d.length) {j : Nat} (h : j < e.length) : upOf (docInsertAt d k n e) (n + j) = if upOf e j < 0 then (k : Int) else upOf e j + n := by
  rw [ins_app, upOf_app, if_neg (by simp; omega), upOf_app, if_pos (by simp; omega), upOf_map (by simp; omega)]
  simp only [List.length_map, List.length_take]
  rw [show n + j - min n d.length = j by omega]
theorem ins_up3 (hn : n ≤ d.length) {i : Nat} (h1 : n ≤ i) (h2 : i < d.length) : upOf (docInsertAt d k n e) (i + e.length) = if upOf d i ≥ n then upOf d i + e.length else upOf d i := by
  rw [ins_app, upOf_app, if_neg (by simp; omega), upOf_app, if_neg (by simp; omega)]
  simp only [List.length_map, List.length_take]
  rw [upOf_map (by simp; omega), upOf_drop, show n + (i + e.length - min n d.length - e.length) = i by omega]
theorem ins_ok (hd : checkDoc d = 0) (he : checkDoc e = 0) (hl : d.length + e.length ≤ 64) (hk : k < n) (hn : n ≤ d.length) (ha : Anc (upOf d) (n - 1) k) (hs : n < d.length → upOf d n ≤ k) : checkDoc (docInsertAt d k n e) = 0 := by
  obtain ⟨hd1, hd2, hd3⟩ := checkDoc_iff.1 hd
  obtain ⟨he1, he2, he3⟩ := checkDoc_iff.1 he
  refine checkDoc_iff.2 ⟨by rw [ins_len hn]; omega, ?_, ?_⟩
  · intro x hx
    rw [ins_app] at hx
    rcases List.mem_append.1 hx with hx | hx
    · exact fine_turn (fun y hy => hd2 y (List.mem_of_mem_take hy)) x hx
    · rcases List.mem_append.1 hx with hx | hx
      · exact fine_turn he2 x hx
      · exact fine_turn (fun y hy => hd2 y (List.mem_of_mem_drop hy)) x hx
  · rw [ins_len hn]
    refine Ups.ins hd3 he3 (by omega) hn hk ha hs (fun i hi => ins_up1 hd3 hn hi) ?_ (fun j h1 h2 => ?_) (fun i h1 h2 => ins_up3 hn h1 h2)
    · have := ins_up2 (k := k) hn (j := 0) (e := e) (by omega)
      rw [Nat.add_zero] at this
      rw [this, he3.1 (by omega), if_pos (by omega)]
    · rw [ins_up2 hn h2, if_neg]
      obtain ⟨i, rfl⟩ : ∃ i, j = i + 1 := ⟨j - 1, by omega⟩
      obtain ⟨p, hp, _⟩ := he3.2 i h2
      omega
theorem ins_behind (hd : checkDoc d = 0) (he : checkDoc e = 0) (hk : k < n) (hn : n ≤ d.length) (hs : n < d.length → upOf d n ≤ k) : behind (docInsertAt d k n e) n = n + e.length := by
  obtain ⟨hd1, hd2, hd3⟩ := checkDoc_iff.1 hd
  obtain ⟨he1, he2, he3⟩ := checkDoc_iff.1 he
  refine behind_uniq (by omega) (by rw [ins_len hn]; omega) (fun i h1 h2 => ?_) (fun h => ?_)
  · obtain ⟨j, rfl⟩ : ∃ j, i = n + j := ⟨i - n, by omega⟩
    rw [ins_up2 hn (by omega)]
    obtain ⟨i, rfl⟩ : ∃ i, j = i + 1 := ⟨j - 1, by omega⟩
    obtain ⟨p, hp, _⟩ := he3.2 i (by omega)
    rw [if_neg (by omega)]
    omega
  · rw [ins_len hn] at h
    have hs := hs (by omega)
    rw [ins_up3 hn (Nat.le_refl _) (by omega), if_neg (by omega)]
    omega
theorem ins_part (hd : checkDoc d = 0) (he : checkDoc e = 0) (hk : k < n) (hn : n ≤ d.length) (hs : n < d.length → upOf d n ≤ k) : docPart (docInsertAt d k n e) n = e := by
  obtain ⟨he1, he2, he3⟩ := checkDoc_iff.1 he
  rw [docPart, ins_behind hd he hk hn hs, ins_app, ← List.append_assoc]
  rw [List.take_append_of_le_length (by simp; omega), List.take_of_length_le (by simp; omega), List.drop_append_of_le_length (by simp; omega), List.drop_of_length_le (by simp; omega), List.nil_append]
  refine turn_turn fun x hx => ?_
  obtain ⟨i, hi, e1⟩ := mem_ix hx
  have := he3.lt hi
  rw [e1]
  split <;> omega
theorem ins_rem (hd : checkDoc d = 0) (he : checkDoc e = 0) (hk : k < n) (hn : n ≤ d.length) (hs : n < d.length → upOf d n ≤ k) : docRemove (docInsertAt d k n e) n = d := by
  obtain ⟨hd1, hd2, hd3⟩ := checkDoc_iff.1 hd
  rw [docRemove, ins_behind hd he hk hn hs, ins_app]
  rw [List.take_append_of_le_length (by simp; omega), List.take_of_length_le (by simp; omega), ← List.append_assoc, List.drop_append_of_le_length (by simp; omega), List.drop_of_length_le (by simp; omega), List.nil_append]
  rw [turn_turn, turn_turn]
  · simp
  · intro x hx
    split <;> split <;> omega
  · intro x hx
    obtain ⟨i, h1, h2, e1⟩ := mem_take_ix hx
    have := hd3.lt h2
    rw [e1]
    split <;> split <;> omega
end

/-- WHAT WAS INSERTED IS THE PART THERE, AND REMOVED AGAIN IT LEAVES THE DOCUMENT AS IT WAS. -/
theorem back_ins {d e : List Nd} {up at' : Int} (h : insE d up at' e = 0) : ∃ n : Nat, thereE (docInsert d up at' e) up = 0 ∧ checkDoc (docInsert d up at' e) = 0 ∧ 0 ≤ at' ∧ at'.toNat < (docKids (docInsert d up at' e) up.toNat).length ∧ (docKids (docInsert d up at' e) up.toNat).getD at'.toNat 0 = n ∧ thereE (docInsert d up at' e) n = 0 ∧ n ≠ 0 ∧ docPart (docInsert d up at' e) n = e ∧ docRemove (docInsert d up at' e) n = d := by
  unfold insE at h
  split at h
  case isFalse h1 => exact absurd h h1
  rename_i hd
  split at h
  case isFalse h1 => exact absurd h h1
  rename_i he
  split at h
  · cases h
  rename_i h1
  split at h
  · cases h
  rename_i h2
  split at h
  · cases h
  rename_i h3
  have hd0 := (checkDoc_ok hd).2.2
  obtain ⟨k, rfl⟩ : ∃ k : Nat, up = k := ⟨up.toNat, by omega⟩
  rw [Int.toNat_natCast] at h2
  obtain ⟨n, e1, hk, hn, ha, hs, hl⟩ := place_at hd0 (k := k) (at' := at'.toNat) (by omega) (by omega)
  have ex : docInsert d k at' e = docInsertAt d k n e := by rw [docInsert, Int.toNat_natCast, e1, Int.toNat_natCast]
  rw [ex]
  have hx := ins_ok hd he (by omega) hk hn ha hs
  have hx0 := (checkDoc_ok hx).2.2
  have hxl := ins_len (d := d) (e := e) (k := k) hn
  obtain ⟨he1, _, he3⟩ := checkDoc_iff.1 he
  obtain ⟨_, _, hd3⟩ := checkDoc_iff.1 hd
  have hup : upOf (docInsertAt d k n e) n = k := by
    have := ins_up2 (k := k) hn (j := 0) (e := e) (by omega)
    rw [Nat.add_zero] at this
    rw [this, he3.1 (by omega), if_pos (by omega)]
  obtain ⟨r, hr⟩ := kidsTo_pre (d := docInsertAt d k n e) (n := (k : Int)) (show n + 1 ≤ (docInsertAt d k n e).length by omega)
  have hkid : docKids (docInsertAt d k n e) k = kidsTo d k n ++ (n : Int) :: r := by
    rw [docKids_eq hx0 (by omega), kidsOf, hr, kidsTo_succ, if_pos hup, kidsTo_same (e := d) fun i hi => ins_up1 hd3 hn hi]
    simp
  rw [Int.toNat_natCast, hkid]
  refine ⟨n, thereE_iff.2 ⟨hx, by omega, by omega⟩, hx, by omega, ?_, ?_, thereE_iff.2 ⟨hx, by omega, by omega⟩, by omega, ins_part hd he hk hn hs, ins_rem hd he hk hn hs⟩
  · rw [List.length_append, List.length_cons]; omega
  · rw [← hl]; simp

/-! ### Removed, and back again -/

section
variable {d : List Nd} {n : Nat}
theorem rem_app : docRemove d n = (d.take n).map (turnUp fun j => if j ≥ behind d n then j - behind d n + n else j) ++ (d.drop (behind d n)).map (turnUp fun j => if j ≥ behind d n then j - behind d n + n else j) := by
  simp [docRemove]
theorem rem_len (hn : n < d.length) : (docRemove d n).length = d.length - (behind d n - n) := by
  have hb := behind_le hn
  rw [rem_app]; simp; omega
theorem rem_up1 (hu : Ups (upOf d) d.length) (hn : n < d.length) {i : Nat} (h : i < n) : upOf (docRemove d n) i = upOf d i := by
  have hb := behind_le hn
  rw [rem_app, upOf_app, if_pos (by simp; omega), upOf_map (by simp; omega), upOf_take h]
  have := hu.lt (k := i) (by omega)
  rw [if_neg (by omega)]
theorem rem_up2 (hn : n < d.length) {i : Nat} (h1 : n ≤ i) (h2 : i + (behind d n - n) < d.length) : upOf (docRemove d n) i = if upOf d (i + (behind d n - n)) ≥ behind d n then upOf d (i + (behind d n - n)) - behind d n + n else upOf d (i + (behind d n - n)) := by
  have hb := behind_le hn
  rw [rem_app, upOf_app, if_neg (by simp; omega)]
  simp only [List.length_map, List.length_take]
  rw [upOf_map (by simp; omega), upOf_drop, show behind d n + (i - min n d.length) = i + (behind d n - n) by omega]
theorem part_len (hn : n < d.length) : (docPart d n).length = behind d n - n := by
  have hb := behind_le hn
  simp [docPart]; omega
theorem part_up (hn : n < d.length) {j : Nat} (h : n + j < behind d n) : upOf (docPart d n) j = max (upOf d (n + j) - n) (-1) := by
  have hb := behind_le hn
  rw [docPart, upOf_map (by simp; omega), upOf_drop, upOf_take (by omega)]

theorem no_in (hd : docOk d d.length = true) (hn : n < d.length) {k j : Nat} (h1 : behind d n ≤ k) (h2 : k < d.length) (e : upOf d k = j) : j < n ∨ behind d n ≤ j := by
  apply Classical.byContradiction
  intro hc
  have h3 := under_out' hd hn h2 h1
  rw [e] at h3
  have hb := behind_le hn
  refine h3 ?_
  rw [C_step hd (by omega)]
  rcases Nat.lt_or_ge n j with h4 | h4
  · exact List.mem_cons_of_mem _ (under_in hd hn j (by omega) h4 (by omega))
  · have : n = j := by omega
    subst this; exact List.mem_cons_self
theorem rem_ok (hd : checkDoc d = 0) (h0 : 0 < n) (hn : n < d.length) : checkDoc (docRemove d n) = 0 := by
  obtain ⟨hd1, hd2, hd3⟩ := checkDoc_iff.1 hd
  have hd0 := (checkDoc_ok hd).2.2
  have hb := behind_le hn
  refine checkDoc_iff.2 ⟨by rw [rem_len hn]; omega, ?_, ?_⟩
  · intro x hx
    rw [rem_app] at hx
    rcases List.mem_append.1 hx with hx | hx
    · exact fine_turn (fun y hy => hd2 y (List.mem_of_mem_take hy)) x hx
    · exact fine_turn (fun y hy => hd2 y (List.mem_of_mem_drop hy)) x hx
  · rw [rem_len hn]
    refine Ups.rem hd3 h0 hb.1 hb.2 (fun i h1 h2 => ?_) (fun h => behind_out hn h) (fun k j h1 h2 e => no_in hd0 hn h1 h2 e) (fun i hi => rem_up1 hd3 hn hi) (fun i h1 h2 => rem_up2 hn h1 h2)
    rw [← C_anc hd0 (by omega), C_step hd0 (by omega)]
    exact List.mem_cons_of_mem _ (under_in hd0 hn i (by omega) h1 h2)
theorem part_ok (hd : checkDoc d = 0) (hn : n < d.length) : checkDoc (docPart d n) = 0 := by
  obtain ⟨hd1, hd2, hd3⟩ := checkDoc_iff.1 hd
  have hb := behind_le hn
  refine checkDoc_iff.2 ⟨by rw [part_len hn]; omega, ?_, ?_⟩
  · exact fine_turn fun y hy => hd2 y (List.mem_of_mem_take (List.mem_of_mem_drop hy))
  · rw [part_len hn]
    exact Ups.part hd3 hb.1 hb.2 (fun i h1 h2 => behind_in hn h1 h2) fun j h => part_up hn h
theorem rem_ins (hd : checkDoc d = 0) (h0 : 0 < n) (hn : n < d.length) {k : Nat} (hk : upOf d n = k) : docInsertAt (docRemove d n) k n (docPart d n) = d := by
  obtain ⟨hd1, hd2, hd3⟩ := checkDoc_iff.1 hd
  have hd0 := (checkDoc_ok hd).2.2
  have hb := behind_le hn
  rw [ins_app, rem_app, part_len hn]
  rw [List.take_append_of_le_length (by simp; omega), List.take_of_length_le (by simp; omega), List.drop_append_of_le_length (by simp; omega), List.drop_of_length_le (by simp; omega), List.nil_append]
  have hc := Nat.le_of_lt hb.1
  rw [turn_turn, turn_turn, docPart, turn_turn]
  · rw [← List.append_assoc]
    have : d.take n = (d.take (behind d n)).take n := by rw [List.take_take, Nat.min_eq_left hc]
    rw [this, List.take_append_drop, List.take_append_drop]
  · intro x hx
    obtain ⟨i, h1, h2, h3, e1⟩ := mem_cut_ix hx
    rw [e1]
    have hl := hd3.lt h3
    rcases Nat.lt_or_ge n i with h4 | h4
    · have := behind_in hn h4 h2
      rw [if_neg (by omega)]
      omega
    · have : i = n := by omega
      subst this
      rw [if_pos (by omega), hk]
  · intro x hx
    obtain ⟨i, h1, h2, e1⟩ := mem_drop_ix hx
    have hup := up_nonneg hd0 (k := i) (by omega) h2
    rw [e1]
    have := no_in hd0 hn h1 h2 (j := (upOf d i).toNat) (by omega)
    split <;> split <;> omega
  · intro x hx
    obtain ⟨i, h1, h2, e1⟩ := mem_take_ix hx
    have := hd3.lt h2
    rw [e1]
    split <;> split <;> omega
end

/-- WHAT WAS REMOVED AND INSERTED AGAIN LEAVES IT AS IT WAS. -/
theorem back_rem {d : List Nd} {n k : Nat} (hd : checkDoc d = 0) (h0 : 0 < n) (hn : n < d.length) (hk : upOf d n = k) : ∃ pl : Nat, thereE d k = 0 ∧ pl < (docKids d k).length ∧ (docKids d k).getD pl 0 = n ∧ (∀ i, i < pl → (docKids d k).getD i 0 ≠ n) ∧ insE (docRemove d n) k pl (docPart d n) = 0 ∧ docInsert (docRemove d n) k pl (docPart d n) = d := by
  obtain ⟨hd1, hd2, hd3⟩ := checkDoc_iff.1 hd
  have hd0 := (checkDoc_ok hd).2.2
  have hb := behind_le hn
  have hl := hd3.lt hn
  have hy := rem_ok hd h0 hn
  have hp := part_ok hd hn
  obtain ⟨hy1, hy2, hy3⟩ := checkDoc_iff.1 hy
  have hy0 := (checkDoc_ok hy).2.2
  have hyl := rem_len hn
  have hpl := part_len hn
  obtain ⟨r, hr⟩ := kidsTo_pre (d := d) (n := (k : Int)) (show n + 1 ≤ d.length by omega)
  have hkid : docKids d k = kidsTo d k n ++ (n : Int) :: r := by
    rw [docKids_eq hd0 (by omega), kidsOf, hr, kidsTo_succ, if_pos hk]
    simp
  have hsame : kidsTo (docRemove d n) k n = kidsTo d k n := kidsTo_same fun i hi => rem_up1 hd3 hn hi
  obtain ⟨m, rfl⟩ : ∃ m, n = m + 1 := ⟨n - 1, by omega⟩
  -- k is above, or is, the one before, there too
  obtain ⟨q, e1, hq⟩ := hd3.2 m hn
  have hkq : q = k := by rw [hk] at e1; omega
  subst hkq
  obtain ⟨h1, h2⟩ := at_place hy0 (k := q) (n := m + 1) (by omega) (by omega) (by
      rw [show m + 1 - 1 = m by omega]
      have : ∀ {i p}, Anc (upOf d) i p → i < m + 1 → Anc (upOf (docRemove d (m + 1))) i p := by
        intro i p h
        induction h with
        | refl _ => intro _; exact .refl _
        | @up i j x e _ ih =>
          intro hi
          have := hd3.lt (k := i) (by omega)
          exact .up ((rem_up1 hd3 hn hi).trans e) (ih (by omega))
      exact this hq (by omega)) (fun h => by
      have hbl : behind d (m + 1) < d.length := by omega
      have ho := behind_out hn hbl
      rw [rem_up2 hn (Nat.le_refl _) (by omega), show m + 1 + (behind d (m + 1) - (m + 1)) = behind d (m + 1) by omega, if_neg (by omega)]
      -- what is above the one behind is above n
      obtain ⟨c, hc⟩ : ∃ c, behind d (m + 1) = c + 1 := ⟨behind d (m + 1) - 1, by omega⟩
      obtain ⟨s, e2, hs⟩ := hd3.2 c (by omega)
      have hcn : Anc (upOf d) c (m + 1) := by
        rcases Nat.lt_or_ge (m + 1) c with h2 | h2
        · rw [← C_anc hd0 (by omega), C_step hd0 (by omega)]
          exact List.mem_cons_of_mem _ (under_in hd0 hn c (by omega) h2 (by omega))
        · have : c = m + 1 := by omega
          subst this; exact .refl _
      rw [hc] at ho ⊢
      have h3 := hd3.two hcn (by omega) hs (by omega)
      cases h3 with
      | refl _ => omega
      | up e3 h5 =>
        rename_i j
        have := hd3.le (k := j) (by omega) h5
        omega)
  rw [hsame] at h1 h2
  refine ⟨(kidsTo d q (m + 1)).length, thereE_iff.2 ⟨hd, by omega, by omega⟩, by rw [hkid]; simp, by rw [hkid]; simp, fun i hi => ?_, ?_, ?_⟩
  · rw [hkid, List.getD_eq_getElem?_getD, List.getElem?_append_left hi, List.getElem?_eq_getElem hi, Option.getD_some]
    have := kidsTo_lt _ (List.getElem_mem hi)
    omega
  · unfold insE
    rw [if_pos hy, if_pos hp, if_neg (by omega), Int.toNat_natCast, if_neg (by omega), if_neg (by omega)]
  · rw [docInsert, Int.toNat_natCast, Int.toNat_natCast, h2, Int.toNat_natCast]
    exact rem_ins hd h0 hn hk
end Go.Hx
