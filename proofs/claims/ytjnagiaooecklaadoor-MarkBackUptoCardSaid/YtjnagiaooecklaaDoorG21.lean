/-
  Walks of functions of the program over an abstract layer, and the laws that they use: each contract says what the function computes, for every input that its conditions let by. No other condition.
-/
import Derived.Test.YtjnagiaooecklaaDoorG18
import Derived.Test.YtjnagiaooecklaaDoorG9
import Derived.Test.YtjnagiaooecklaaDoorG20
import Derived.Test.YtjnagiaooecklaaDoorG12
set_option linter.all false
section
/-
  Documents as text: what the strict reader takes is what is printed, and what is printed is read back by both readers. No condition.
-/
set_option maxRecDepth 100000
set_option linter.unusedSimpArgs false
namespace Go.Hx

/-! ### Heads of texts -/

def Hd (p : UInt8 → Bool) (s : Bys) : Prop := ∀ c l, s = c :: l → p c = true
theorem Hd.nil {p : UInt8 → Bool} : Hd p [] := fun _ _ h => by cases h
theorem Hd.cons {p : UInt8 → Bool} {c : UInt8} {l : Bys} (h : p c = true) : Hd p (c :: l) := fun _ _ e => by injection e with e _; rw [← e]; exact h
theorem Hd.app {p : UInt8 → Bool} {a b : Bys} (ha : Hd p a) (hb : Hd p b) : Hd p (a ++ b) := by
  cases a with
  | nil => exact hb
  | cons c a => exact Hd.cons (ha c a rfl)
theorem Hd.mono {p q : UInt8 → Bool} {a : Bys} (h : ∀ c, p c = true → q c = true) (ha : Hd p a) : Hd q a := fun c l e => h c (ha c l e)
def pR (c : UInt8) : Bool := c == 32 || c == 41
def pS (c : UInt8) : Bool := c == 40 || pR c
def pA (c : UInt8) : Bool := c == 91 || pS c
def pC (c : UInt8) : Bool := c == 46 || pA c
def pI (c : UInt8) : Bool := c == 35 || pC c
theorem pI_name {c : UInt8} (h : pI c = true) : nameCh c = false := by
  simp only [pI, pC, pA, pS, pR, Bool.or_eq_true, beq_iff_eq] at h
  rcases h with rfl | rfl | rfl | rfl | rfl | rfl <;> rfl
theorem pC_I {c : UInt8} (h : pC c = true) : pI c = true := by simp [pI, h]
theorem pA_C {c : UInt8} (h : pA c = true) : pC c = true := by simp [pC, h]
theorem pS_A {c : UInt8} (h : pS c = true) : pA c = true := by simp [pA, h]
theorem pR_S {c : UInt8} (h : pR c = true) : pS c = true := by simp [pS, h]
theorem sgn_cons (c d : UInt8) (s : Bys) : signOk (c :: s) [d] = (c == d) := by
  simp [signOk]
theorem sgnR_cons (c d : UInt8) (s : Bys) : signR (c :: s) [d] = if (c == d) = true then s else c :: s := by
  unfold signR
  rw [sgn_cons]
  rfl
theorem sign_not {p : UInt8 → Bool} {s : Bys} {d : UInt8} (hs : Hd p s) (hd : p d = false) : signOk s [d] = false := by
  cases s with
  | nil => rfl
  | cons c l =>
    rw [sgn_cons, beq_eq_false_iff_ne]
    rintro rfl
    have := hs c l rfl
    rw [hd] at this; cases this
theorem sign1 {s : Bys} {c : UInt8} (h : signOk s [c] = true) : s = c :: signR s [c] := by
  cases s with
  | nil => cases h
  | cons d l =>
    rw [sgn_cons, beq_iff_eq] at h
    subst h
    rw [sgnR_cons, if_pos (by simp)]
theorem sign1_at (c : UInt8) (l : Bys) : signOk (c :: l) [c] = true ∧ signR (c :: l) [c] = l := by
  rw [sgnR_cons, sgn_cons]; simp
theorem sign2 {s : Bys} {c d : UInt8} (h : signOk s [c, d] = true) : s = c :: d :: signR s [c, d] := by
  unfold signR
  rw [if_pos h]
  unfold signOk at h
  match s, h with
  | [], h => simp at h
  | [_], h => simp at h
  | a :: b :: l, h =>
    simp at h
    obtain ⟨h1, h2⟩ := h
    subst h1 h2
    rfl
theorem sign2_at (c d : UInt8) (l : Bys) : signOk (c :: d :: l) [c, d] = true ∧ signR (c :: d :: l) [c, d] = l := by
  have : signOk (c :: d :: l) [c, d] = true := by simp [signOk]
  refine ⟨this, ?_⟩
  unfold signR
  rw [if_pos this]; rfl
theorem tw_app {p : UInt8 → Bool} : ∀ {n r : Bys}, n.all p = true → (∀ c l, r = c :: l → p c = false) → (n ++ r).takeWhile p = n ∧ (n ++ r).dropWhile p = r
  | [], r, _, hr => by
    cases r with
    | nil => simp
    | cons c l => simp [hr c l rfl]
  | c :: n, r, hn, hr => by
    simp only [List.all_cons, Bool.and_eq_true] at hn
    have := tw_app hn.2 hr
    simp [hn.1, this.1, this.2]
theorem nm_app {n r : Bys} (hn : isName n = true) (hr : Hd pI r) : nmOf (n ++ r) = n ∧ nmR (n ++ r) = r := by
  unfold isName at hn
  simp only [Bool.and_eq_true] at hn
  exact tw_app hn.2 (fun c l e => pI_name (hr c l e))
theorem nm_eq (s : Bys) : s = nmOf s ++ nmR s := (List.takeWhile_append_dropWhile).symm

/-! ### An attribute -/

theorem cut_at : ∀ {v : Bys} (r : Bys), (∀ c ∈ v, c ≠ 34) → Lib.index (v ++ 34 :: 93 :: r) [34, 93] = v.length
  | [], r, _ => by simp [Lib.index, List.isPrefixOf]
  | c :: v, r, h => by
    have hc := h c List.mem_cons_self
    have ih := cut_at (v := v) r (fun x hx => h x (List.mem_cons_of_mem _ hx))
    have h1 : ([34, 93] : Bys).isPrefixOf (c :: (v ++ 34 :: 93 :: r)) = false := by simp [List.isPrefixOf, Ne.symm hc]
    simp only [List.cons_append, Lib.index, h1, Bool.false_eq_true, if_false, ih, List.length_cons]
    rw [if_neg (by simp)]
    rfl
theorem cut_val {v : Bys} (r : Bys) (h : ∀ c ∈ v, c ≠ 34) : Lib.cut (v ++ 34 :: 93 :: r) [34, 93] = (v, r, true) := by
  unfold Lib.cut
  rw [cut_at r h, if_pos (by omega)]
  simp
theorem cutq_eq {s : Bys} (h : (Lib.cut s [34, 93]).2.2 = true) : s = (Lib.cut s [34, 93]).1 ++ 34 :: 93 :: (Lib.cut s [34, 93]).2.1 := by
  unfold Lib.cut at h ⊢
  split at h
  · rename_i h0
    rw [if_pos h0]
    rcases Lib.index_spec s [34, 93] with ⟨e, _⟩ | ⟨i, e, hi, ho, _⟩
    · rw [e] at h0; omega
    · rw [e]
      simp only [Int.toNat_natCast]
      unfold Lib.occAt at ho
      have hd : ∃ l, s.drop i = 34 :: 93 :: l := by
        match hq : s.drop i, ho with
        | [], ho => simp [List.isPrefixOf] at ho
        | [_], ho => simp [List.isPrefixOf] at ho
        | a :: b :: l, ho =>
          simp [List.isPrefixOf] at ho
          exact ⟨l, by rw [← ho.1, ← ho.2]⟩
      obtain ⟨l, hl⟩ := hd
      have h2 : s.drop (i + ([34, 93] : Bys).length) = l := by
        have : s.drop (i + 2) = (s.drop i).drop 2 := by rw [List.drop_drop]
        show s.drop (i + 2) = l
        rw [this, hl]; rfl
      rw [h2, ← hl, List.take_append_drop]
  · cases h
theorem val_no {v : Bys} (h : isValue v = true) : ∀ c ∈ v, c ≠ 34 := by
  unfold isValue at h
  simp only [Bool.and_eq_true, List.all_eq_true] at h
  rintro c hc rfl
  have := h.2 _ hc
  simp [valCh] at this
theorem attrRd_back {a : Bys × Bys} (h1 : isName a.1 = true) (h2 : isValue a.2 = true) (r : Bys) : attrRd (a.1 ++ 61 :: 34 :: (a.2 ++ 34 :: 93 :: r)) = some (a, r) := by
  have hn : nmOf (a.1 ++ 61 :: 34 :: (a.2 ++ 34 :: 93 :: r)) = a.1 ∧ nmR (a.1 ++ 61 :: 34 :: (a.2 ++ 34 :: 93 :: r)) = 61 :: 34 :: (a.2 ++ 34 :: 93 :: r) := by
    unfold isName at h1
    simp only [Bool.and_eq_true] at h1
    exact tw_app h1.2 (fun c l e => by injection e with e _; rw [← e]; rfl)
  have hs := sign2_at 61 34 (a.2 ++ 34 :: 93 :: r)
  unfold attrRd attrCut
  rw [hn.1, hn.2, hs.1, hs.2, cut_val r (val_no h2), h1, h2]
  rfl
theorem attrRd_text {s : Bys} {a : Bys × Bys} {r : Bys} (h : attrRd s = some (a, r)) : s = a.1 ++ 61 :: 34 :: (a.2 ++ 34 :: 93 :: r) := by
  unfold attrRd at h
  split at h
  · rename_i hc
    simp only [Bool.and_eq_true] at hc
    injection h with h
    injection h with h1 h2
    have e2 := sign2 hc.1.1.2
    have e3 := cutq_eq hc.1.2
    unfold attrCut at h1 h2
    rw [← h1, ← h2]
    simp only
    rw [← e3, ← e2]
    exact nm_eq s
  · cases h

/-! ### An element -/

theorem clsT_cons (c : Bys) (m : List Bys) : clsT (c :: m) = 46 :: (c ++ clsT m) := by simp [clsT]
theorem attT_cons (a : Bys × Bys) (m : List (Bys × Bys)) : attT (a :: m) = 91 :: (a.1 ++ 61 :: 34 :: (a.2 ++ 34 :: 93 :: attT m)) := by simp [attT, attT1]
theorem clsF_text : ∀ (f : Nat) (s : Bys) (l l' : List Bys) (r : Bys), clsF f s l = some (l', r) → ∃ m, l' = l ++ m ∧ s = clsT m ++ r
  | 0, s, l, l', r, h => by
    simp only [clsF] at h
    injection h with h; injection h with h1 h2
    exact ⟨[], by simp [h1], by simp [clsT, h2]⟩
  | f + 1, s, l, l', r, h => by
    simp only [clsF] at h
    split at h
    · rename_i hs
      split at h
      · obtain ⟨m, e1, e2⟩ := clsF_text f _ _ _ _ h
        refine ⟨nmOf (signR s [46]) :: m, by rw [e1]; simp, ?_⟩
        rw [clsT_cons, List.cons_append, List.append_assoc, ← e2, ← nm_eq]
        exact sign1 hs
      · cases h
    · injection h with h; injection h with h1 h2
      exact ⟨[], by simp [h1], by simp [clsT, h2]⟩
theorem attF_text : ∀ (f : Nat) (s : Bys) (l l' : List (Bys × Bys)) (r : Bys), attF f s l = some (l', r) → ∃ m, l' = l ++ m ∧ s = attT m ++ r
  | 0, s, l, l', r, h => by
    simp only [attF] at h
    injection h with h; injection h with h1 h2
    exact ⟨[], by simp [h1], by simp [attT, h2]⟩
  | f + 1, s, l, l', r, h => by
    simp only [attF] at h
    split at h
    · rename_i hs
      split at h
      · rename_i a q ha
        obtain ⟨m, e1, e2⟩ := attF_text f _ _ _ _ h
        refine ⟨a :: m, by rw [e1]; simp, ?_⟩
        have e3 := attrRd_text ha
        rw [attT_cons]
        simp only [List.cons_append, List.append_assoc]
        rw [← e2, ← e3]
        exact sign1 hs
      · cases h
    · injection h with h; injection h with h1 h2
      exact ⟨[], by simp [h1], by simp [attT, h2]⟩
theorem idRd_text {s i r : Bys} (h : idRd s = some (i, r)) : s = idT i ++ r := by
  unfold idRd at h
  split at h
  · rename_i hs
    split at h
    · rename_i hn
      injection h with h; injection h with h1 h2
      have : (i == []) = false := by
        rw [← h1]
        cases hq : nmOf (signR s [35]) with
        | nil => rw [hq] at hn; cases hn
        | cons => rfl
      rw [idT, this, if_neg (by simp), ← h1, ← h2, List.cons_append, ← nm_eq]
      exact sign1 hs
    · cases h
  · injection h with h; injection h with h1 h2
    rw [← h1, ← h2]; rfl
theorem nodeRd_text {up : Int} {s : Bys} {x : Nd} {r : Bys} (h : nodeRd up s = some (x, r)) : s = nodeT0 x ++ r ∧ x.up = up := by
  unfold nodeRd at h
  split at h
  · split at h
    · cases h
    · rename_i i s2 hi
      split at h
      · cases h
      · rename_i c s3 hc
        split at h
        · cases h
        · rename_i a s4 ha
          injection h with h; injection h with h1 h2
          subst h1 h2
          obtain ⟨m1, e1, e2⟩ := clsF_text _ _ _ _ _ hc
          obtain ⟨m2, e3, e4⟩ := attF_text _ _ _ _ _ ha
          rw [List.nil_append] at e1 e3
          subst e1 e3
          refine ⟨?_, rfl⟩
          simp only [nodeT0, List.append_assoc]
          rw [← e4, ← e2, ← idRd_text hi]
          exact nm_eq s
  · cases h
theorem nodeT0_pos {up : Int} {s : Bys} {x : Nd} {r : Bys} (h : nodeRd up s = some (x, r)) : r.length ≤ s.length := by
  have := congrArg List.length (nodeRd_text h).1
  rw [List.length_append] at this
  omega
theorem clsF_back : ∀ (m : List Bys) (f : Nat) (l : List Bys) (r : Bys), (∀ c ∈ m, isName c = true) → m.length < f → Hd pA r → clsF f (clsT m ++ r) l = some (l ++ m, r)
  | [], f, l, r, _, hf, hr => by
    obtain ⟨f', rfl⟩ : ∃ f', f = f' + 1 := ⟨f - 1, by simp at hf; omega⟩
    have e : clsT [] ++ r = r := rfl
    rw [e]
    simp only [clsF]
    rw [sign_not hr (by rfl)]
    simp
  | c :: m, f, l, r, hm, hf, hr => by
    obtain ⟨f', rfl⟩ : ∃ f', f = f' + 1 := ⟨f - 1, by simp at hf; omega⟩
    have hc : isName c = true := hm c List.mem_cons_self
    have hh : Hd pI (clsT m ++ r) := by
      refine Hd.app ?_ (hr.mono fun _ h => pC_I (pA_C h))
      cases m with
      | nil => exact Hd.nil
      | cons d m => rw [clsT_cons]; exact Hd.cons rfl
    have hn := nm_app hc hh
    rw [clsT_cons]
    simp only [List.cons_append, List.append_assoc, clsF]
    rw [(sign1_at _ _).1, (sign1_at _ _).2, if_pos rfl, hn.1, hn.2, if_pos hc, clsF_back m f' (l ++ [c]) r (fun x hx => hm x (List.mem_cons_of_mem _ hx)) (by simp at hf; omega) hr]
    simp
theorem attF_back : ∀ (m : List (Bys × Bys)) (f : Nat) (l : List (Bys × Bys)) (r : Bys), (∀ a ∈ m, isName a.1 = true ∧ isValue a.2 = true) → m.length < f → Hd pS r → attF f (attT m ++ r) l = some (l ++ m, r)
  | [], f, l, r, _, hf, hr => by
    obtain ⟨f', rfl⟩ : ∃ f', f = f' + 1 := ⟨f - 1, by simp at hf; omega⟩
    have e : attT [] ++ r = r := rfl
    rw [e]
    simp only [attF]
    rw [sign_not hr (by rfl)]
    simp
  | a :: m, f, l, r, hm, hf, hr => by
    obtain ⟨f', rfl⟩ : ∃ f', f = f' + 1 := ⟨f - 1, by simp at hf; omega⟩
    have hc := hm a List.mem_cons_self
    rw [attT_cons]
    simp only [List.cons_append, List.append_assoc, attF]
    rw [(sign1_at _ _).1, (sign1_at _ _).2, if_pos rfl, attrRd_back hc.1 hc.2]
    simp only
    rw [attF_back m f' (l ++ [a]) r (fun x hx => hm x (List.mem_cons_of_mem _ hx)) (by simp at hf; omega) hr]
    simp
theorem clsT_ge : ∀ m : List Bys, m.length ≤ (clsT m).length
  | [] => Nat.zero_le _
  | c :: m => by rw [clsT_cons]; have := clsT_ge m; simp only [List.length_cons, List.length_append]; omega
theorem attT_ge : ∀ m : List (Bys × Bys), m.length ≤ (attT m).length
  | [] => Nat.zero_le _
  | c :: m => by rw [attT_cons]; have := attT_ge m; simp only [List.length_cons, List.length_append]; omega
theorem all_mem {α : Type} {p : Nat → Bool} {q : α → Prop} {l : List α} {d : α} (h : (List.range l.length).all p = true) (hp : ∀ i, i < l.length → p i = true → q (l.getD i d)) : ∀ x ∈ l, q x := by
  intro x hx
  obtain ⟨i, hi, e⟩ := List.mem_iff_getElem.1 hx
  have := hp i hi (by rw [List.all_eq_true] at h; exact h i (List.mem_range.2 hi))
  rw [List.getD_eq_getElem?_getD, List.getElem?_eq_getElem hi, e] at this
  exact this
theorem fine_parts {x : Nd} (h : nodeFine x = true) : isName x.tag = true ∧ (x.id = [] ∨ isName x.id = true) ∧ (∀ c ∈ x.cls, isName c = true) ∧ (∀ a ∈ x.att, isName a.1 = true ∧ isValue a.2 = true) := by
  unfold nodeFine at h
  simp only [Bool.and_eq_true, Bool.or_eq_true, beq_iff_eq] at h
  refine ⟨h.1.1.1.1.1, h.1.1.1.1.2, ?_, ?_⟩
  · exact all_mem (d := []) h.1.2 (fun i _ hp => by
      unfold cOk at hp
      simp only [Bool.and_eq_true] at hp
      exact hp.1)
  · exact all_mem (d := default) h.2 (fun i _ hp => by
      unfold aOk at hp
      simp only [Bool.and_eq_true] at hp
      exact hp.1)
theorem attT_hd {p : UInt8 → Bool} (hp : p 91 = true) (m : List (Bys × Bys)) : Hd p (attT m) := by
  cases m with
  | nil => exact Hd.nil
  | cons a m => rw [attT_cons]; exact Hd.cons hp
theorem clsT_hd {p : UInt8 → Bool} (hp : p 46 = true) (m : List Bys) : Hd p (clsT m) := by
  cases m with
  | nil => exact Hd.nil
  | cons a m => rw [clsT_cons]; exact Hd.cons hp
theorem idT_hd {p : UInt8 → Bool} (hp : p 35 = true) (i : Bys) : Hd p (idT i) := by
  unfold idT
  split
  · exact Hd.nil
  · exact Hd.cons hp
theorem idRd_back {i r : Bys} (h : i = [] ∨ isName i = true) (hr : Hd pC r) : idRd (idT i ++ r) = some (i, r) := by
  rcases h with rfl | h
  · show idRd r = _
    unfold idRd
    rw [sign_not hr (by rfl)]; rfl
  · have e : (i == []) = false := by
      cases i with
      | nil => cases h
      | cons => rfl
    have hn := nm_app h (hr.mono fun _ => pC_I)
    unfold idRd idT
    rw [e]
    simp only [Bool.false_eq_true, if_false, List.cons_append]
    rw [(sign1_at _ _).1, (sign1_at _ _).2, if_pos rfl, hn.1, hn.2, if_pos h]
theorem nodeRd_back {x : Nd} (hx : nodeFine x = true) {r : Bys} (hr : Hd pS r) (up : Int) : nodeRd up (nodeT0 x ++ r) = some ({ x with up := up }, r) := by
  obtain ⟨h1, h2, h3, h4⟩ := fine_parts hx
  have r1 : Hd pA (attT x.att ++ r) := (attT_hd rfl _).app (hr.mono fun _ => pS_A)
  have r2 : Hd pC (clsT x.cls ++ (attT x.att ++ r)) := (clsT_hd rfl _).app (r1.mono fun _ => pA_C)
  have r3 : Hd pI (idT x.id ++ (clsT x.cls ++ (attT x.att ++ r))) := (idT_hd rfl _).app (r2.mono fun _ => pC_I)
  have hn := nm_app h1 r3
  unfold nodeRd nodeT0
  simp only [List.append_assoc]
  rw [hn.1, hn.2, if_pos h1, idRd_back h2 r2]
  simp only
  rw [clsF_back _ _ _ _ h3 (by have := clsT_ge x.cls; simp only [List.length_append]; omega) r1]
  simp only [List.nil_append]
  rw [attF_back _ _ _ _ h4 (by have := attT_ge x.att; simp only [List.length_append]; omega) hr]
  simp only [List.nil_append]
end Go.Hx
end

section
/-
  Documents as text: the strict reader takes the text of a tree, and what it takes is the text that is shown. No condition.
-/
set_option maxRecDepth 100000
set_option linter.unusedSimpArgs false
namespace Go.Hx
variable [Glob]

/-! ### The text of a tree -/

mutual
def txT : Tr → Bys
  | .mk x ks => nodeT0 x ++ (if ks.isEmpty then [] else txTs 40 ks ++ [41])
def txTs : UInt8 → List Tr → Bys
  | _, [] => []
  | c, t :: r => c :: (txT t ++ txTs 32 r)
end
def kT (ks : List Tr) : Bys := if ks.isEmpty then [] else txTs 40 ks ++ [41]
theorem txT_eq (x : Nd) (ks : List Tr) : txT (.mk x ks) = nodeT0 x ++ kT ks := by simp only [txT, kT]
mutual
def fineT : Tr → Bool
  | .mk x ks => nodeFine x && fineTs ks
def fineTs : List Tr → Bool
  | [] => true
  | t :: r => fineT t && fineTs r
end
theorem kT_hd (ks : List Tr) {r : Bys} (hr : Hd pS r) : Hd pS (kT ks ++ r) := by
  refine Hd.app ?_ hr
  cases ks with
  | nil => exact Hd.nil
  | cons t ks => simp only [kT, List.isEmpty_cons, Bool.false_eq_true, if_false, txTs, List.cons_append]; exact Hd.cons rfl
theorem sib_hd (ks : List Tr) (r : Bys) : Hd pR (txTs 32 ks ++ 41 :: r) := by
  cases ks with
  | nil => exact Hd.cons rfl
  | cons t ks => simp only [txTs, List.cons_append]; exact Hd.cons rfl
theorem kT_cons (t : Tr) (ks : List Tr) (r : Bys) : kT (t :: ks) ++ r = 40 :: (txT t ++ (txTs 32 ks ++ 41 :: r)) := by
  simp only [kT, List.isEmpty_cons, Bool.false_eq_true, if_false, txTs, List.cons_append, List.append_assoc, List.nil_append]

/-! ### The strict reader takes it -/

theorem strict_tree : ∀ (N : Nat),
    (∀ (ks : List Tr) (L : List Nd) (op : List Int) (r : Bys) (f : Nat), szTs ks ≤ N → fineTs ks = true → Hd pR r → 0 < L.length → L.length + szTs ks ≤ 64 → (kT ks ++ r).length < f → ∃ g, r.length < g ∧ rdF f L op (kT ks ++ r) = rdF g (layTs ks L ((L.length : Int) - 1)) op r) ∧
    (∀ (ks : List Tr) (L : List Nd) (op : List Int) (u : Int) (r : Bys) (f : Nat), szTs ks ≤ N → fineTs ks = true → Hd pR r → L.length + szTs ks ≤ 64 → (txTs 32 ks ++ 41 :: r).length < f → ∃ g, r.length < g ∧ rdF f L (op ++ [u]) (txTs 32 ks ++ 41 :: r) = rdF g (layTs ks L u) op r)
  | 0 => by
    have hz : ∀ ks : List Tr, szTs ks ≤ 0 → ks = [] := by
      intro ks h
      cases ks with
      | nil => rfl
      | cons t ks => cases t; simp only [szTs, szT] at h; omega
    refine ⟨?_, ?_⟩
    · intro ks L op r f h _ _ _ _ hf
      rw [hz ks h] at hf ⊢
      exact ⟨f, hf, rfl⟩
    · intro ks L op u r f h _ hr hL hf
      rw [hz ks h] at hf hL ⊢
      obtain ⟨f', rfl⟩ : ∃ f', f = f' + 1 := ⟨f - 1, by omega⟩
      refine ⟨f', by simp [txTs] at hf; omega, ?_⟩
      simp only [szTs, Nat.add_zero] at hL
      show rdF (f' + 1) L (op ++ [u]) (41 :: r) = rdF f' L op r
      simp only [rdF]
      rw [if_neg (by simp), if_neg (by omega), sgn_cons, if_neg (by decide), if_neg (by simp), (sign1_at _ _).1, (sign1_at _ _).2, if_pos rfl, sign_not hr (by rfl)]
      simp
  | N + 1 => by
    obtain ⟨ihK, ihS⟩ := strict_tree N
    have hS : ∀ (ks : List Tr) (L : List Nd) (op : List Int) (u : Int) (r : Bys) (f : Nat), szTs ks ≤ N + 1 → fineTs ks = true → Hd pR r → L.length + szTs ks ≤ 64 → (txTs 32 ks ++ 41 :: r).length < f → ∃ g, r.length < g ∧ rdF f L (op ++ [u]) (txTs 32 ks ++ 41 :: r) = rdF g (layTs ks L u) op r := by
      intro ks L op u r f h hfine hr hL hf
      cases ks with
      | nil => exact ihS [] L op u r f (Nat.zero_le _) hfine hr hL hf
      | cons t ks =>
        obtain ⟨x, k⟩ := t
        obtain ⟨f', rfl⟩ : ∃ f', f = f' + 1 := ⟨f - 1, by omega⟩
        simp only [szTs, szT] at h hL
        simp only [fineTs, fineT, Bool.and_eq_true] at hfine
        have e : txTs 32 (Tr.mk x k :: ks) ++ 41 :: r = 32 :: (nodeT0 x ++ (kT k ++ (txTs 32 ks ++ 41 :: r))) := by
          simp only [txTs, txT_eq, List.cons_append, List.append_assoc]
        rw [e] at hf ⊢
        have hq : (kT k ++ (txTs 32 ks ++ 41 :: r)).length < f' := by
          simp only [List.length_cons, List.length_append] at hf ⊢; omega
        obtain ⟨g1, hg1, e1⟩ := ihK k (L ++ [{ x with up := u }]) (op ++ [u]) (txTs 32 ks ++ 41 :: r) f' (by omega) hfine.1.2 (sib_hd ks r) (by simp) (by simp only [List.length_append, List.length_cons, List.length_nil]; omega) hq
        have el : (layT (.mk x k) L u) = layTs k (L ++ [{ x with up := u }]) (((L ++ [{ x with up := u }]).length : Int) - 1) := by
          simp only [layT, List.length_append, List.length_cons, List.length_nil]
          congr 1; omega
        have hll : (layT (.mk x k) L u).length = L.length + (szTs k + 1) := by rw [layT_len]; rfl
        obtain ⟨g2, hg2, e2⟩ := ihS ks (layT (.mk x k) L u) op u r g1 (by omega) hfine.2 hr (by rw [hll]; omega) hg1
        refine ⟨g2, hg2, ?_⟩
        have hgl : (op ++ [u]).getLastD 0 = u := by simp
        simp only [rdF]
        rw [if_neg (by simp), if_neg (by omega), sgn_cons, if_neg (by decide), if_neg (by simp), sgn_cons, if_neg (by decide), (sign1_at _ _).1, (sign1_at _ _).2, if_pos rfl, hgl, nodeRd_back hfine.1.1 (kT_hd k ((sib_hd ks r).mono fun _ => pR_S)) u]
        simp only
        rw [e1, ← el, e2]
        rfl
    refine ⟨?_, hS⟩
    intro ks L op r f h hfine hr h0 hL hf
    cases ks with
    | nil => exact ⟨f, hf, rfl⟩
    | cons t ks =>
      obtain ⟨x, k⟩ := t
      obtain ⟨f', rfl⟩ : ∃ f', f = f' + 1 := ⟨f - 1, by omega⟩
      simp only [szTs, szT] at h hL
      simp only [fineTs, fineT, Bool.and_eq_true] at hfine
      rw [kT_cons, txT_eq, List.append_assoc] at hf ⊢
      have hq : (kT k ++ (txTs 32 ks ++ 41 :: r)).length < f' := by
        simp only [List.length_cons, List.length_append] at hf ⊢; omega
      obtain ⟨g1, hg1, e1⟩ := ihK k (L ++ [{ x with up := (L.length : Int) - 1 }]) (op ++ [(L.length : Int) - 1]) (txTs 32 ks ++ 41 :: r) f' (by omega) hfine.1.2 (sib_hd ks r) (by simp) (by simp only [List.length_append, List.length_cons, List.length_nil]; omega) hq
      have el : (layT (.mk x k) L ((L.length : Int) - 1)) = layTs k (L ++ [{ x with up := (L.length : Int) - 1 }]) (((L ++ [{ x with up := (L.length : Int) - 1 }]).length : Int) - 1) := by
        simp only [layT, List.length_append, List.length_cons, List.length_nil]
        congr 1; omega
      have hll : (layT (.mk x k) L ((L.length : Int) - 1)).length = L.length + (szTs k + 1) := by rw [layT_len]; rfl
      obtain ⟨g2, hg2, e2⟩ := ihS ks (layT (.mk x k) L ((L.length : Int) - 1)) op ((L.length : Int) - 1) r g1 (by omega) hfine.2 hr (by rw [hll]; omega) hg1
      refine ⟨g2, hg2, ?_⟩
      simp only [rdF]
      rw [if_neg (by simp), if_neg (by omega), (sign1_at _ _).1, (sign1_at _ _).2, if_pos rfl, nodeRd_back hfine.1.1 (kT_hd k ((sib_hd ks r).mono fun _ => pR_S)) _]
      simp only
      rw [e1, ← el, e2]
      rfl
/-- The strict reader takes the text of a tree that lies as a right document. -/
theorem readD_tree {t : Tr} (ht : fineT t = true) (hs : szT t ≤ 64) (hc : checkDoc (layT t [] (-1)) = 0) : readD (txT t) = some (layT t [] (-1)) := by
  obtain ⟨x, k⟩ := t
  simp only [fineT, Bool.and_eq_true] at ht
  simp only [szT] at hs
  have hk : Hd pS (kT k) := by have := kT_hd k (r := []) Hd.nil; rwa [List.append_nil] at this
  unfold readD
  rw [txT_eq, nodeRd_back ht.1 hk]
  simp only
  obtain ⟨g, hg, e⟩ := (strict_tree (szTs k)).1 k [{ x with up := -1 }] [] [] ((kT k).length + 1) (Nat.le_refl _) ht.2 Hd.nil (by simp) (by simp; omega) (by simp)
  rw [List.append_nil] at e
  rw [e]
  obtain ⟨g', rfl⟩ : ∃ g', g = g' + 1 := ⟨g - 1, by simp at hg; omega⟩
  have el : layT (.mk x k) [] (-1) = layTs k [{ x with up := -1 }] (([{ x with up := -1 }] : List Nd).length - 1) := rfl
  rw [← el]
  simp only [rdF, hc, and_self, if_true]

/-! ### What is shown -/

def sK (d : List Nd) : Nat → List Int
  | 0 => []
  | i + 1 => if i = 0 then [] else if upOf d i = (i : Int) - 1 then ((i : Int) - 1) :: sK d i else popTo (upOf d i) (sK d i)
def sepT (d : List Nd) (i : Nat) : Bys := if i = 0 then [] else if upOf d i = (i : Int) - 1 then [40] else List.replicate ((sK d i).length - (popTo (upOf d i) (sK d i)).length) 41 ++ [32]
def sT (d : List Nd) : Nat → Bys
  | 0 => []
  | i + 1 => sT d i ++ sepT d i ++ nodeT0 (d.getD i default)
def showT (d : List Nd) : Bys := sT d d.length ++ List.replicate (sK d d.length).length 41

theorem gd_app {α : Type} {l r : List α} {d : α} {i : Nat} (h : i < l.length) : (l ++ r).getD i d = l.getD i d := by
  simp only [List.getD_eq_getElem?_getD, List.getElem?_append_left h]
theorem upOf_pre (d e : List Nd) {i : Nat} (h : i < d.length) : upOf (d ++ e) i = upOf d i := by
  unfold upOf; rw [gd_app h]
theorem sK_pre (d e : List Nd) : ∀ i, i ≤ d.length → sK (d ++ e) i = sK d i
  | 0, _ => rfl
  | i + 1, h => by simp only [sK, upOf_pre d e (show i < d.length by omega), sK_pre d e i (by omega)]
theorem sepT_pre (d e : List Nd) {i : Nat} (h : i < d.length) : sepT (d ++ e) i = sepT d i := by
  simp only [sepT, upOf_pre d e h, sK_pre d e i (by omega)]
theorem sT_pre (d e : List Nd) : ∀ i, i ≤ d.length → sT (d ++ e) i = sT d i
  | 0, _ => rfl
  | i + 1, h => by simp only [sT, sT_pre d e i (by omega), sepT_pre d e (show i < d.length by omega), gd_app (show i < d.length by omega)]
theorem popTo_suf (u : Int) : ∀ c : List Int, ∃ a, c = a ++ popTo u c
  | [] => ⟨[], rfl⟩
  | x :: c => by
    by_cases h : x = u
    · exact ⟨[], by simp [popTo, h]⟩
    · obtain ⟨a, e⟩ := popTo_suf u c
      refine ⟨x :: a, ?_⟩
      have : popTo u (x :: c) = popTo u c := by simp [popTo, h]
      rw [this, List.cons_append, ← e]
/-- The stack falls strictly, and all in it lie ahead of the last element. -/
def Fall (l : List Int) (n : Int) : Prop := List.Pairwise (fun a b => b < a) l ∧ ∀ x ∈ l, x < n
theorem sK_fall (d : List Nd) : ∀ i, Fall (sK d i) ((i : Int) - 1)
  | 0 => ⟨by simp [sK], by simp [sK]⟩
  | i + 1 => by
    have ih := sK_fall d i
    simp only [sK]
    split
    · exact ⟨by simp, by simp⟩
    · split
      · refine ⟨List.pairwise_cons.2 ⟨fun x hx => ih.2 x hx, ih.1⟩, ?_⟩
        intro x hx
        rcases List.mem_cons.1 hx with rfl | hx
        · omega
        · have := ih.2 x hx; omega
      · obtain ⟨a, e⟩ := popTo_suf (upOf d i) (sK d i)
        have hs : (popTo (upOf d i) (sK d i)).Sublist (sK d i) := List.dropWhile_sublist _
        refine ⟨ih.1.sublist hs, fun x hx => ?_⟩
        have := ih.2 x (hs.subset hx)
        omega
theorem popTo_at {u : Int} : ∀ (a r : List Int), (∀ x ∈ a, x ≠ u) → popTo u (a ++ u :: r) = u :: r
  | [], r, _ => by simp [popTo]
  | x :: a, r, h => by
    have hx := h x List.mem_cons_self
    have ih := popTo_at a r (fun y hy => h y (List.mem_cons_of_mem _ hy))
    have : popTo u (x :: (a ++ u :: r)) = popTo u (a ++ u :: r) := by simp [popTo, hx]
    rw [List.cons_append, this, ih]

/-- What the strict reader takes is what is shown. -/
theorem rdF_show : ∀ (f : Nat) (d D : List Nd) (op : List Int) (s : Bys) (m : Nat), rdF f d op s = some D → 0 < d.length → m ≤ (sK d d.length).length → op.reverse = (sK d d.length).drop m → (0 < m → signOk s [40] = false) → showT D = sT d d.length ++ (List.replicate m 41 ++ s) ∧ checkDoc D = 0
  | 0, d, D, op, s, m, h, _, _, _, _ => by simp [rdF] at h
  | f + 1, d, D, op, s, m, h, h0, hm, ho, hp => by
    simp only [rdF] at h
    have hlen : ∀ x : Nd, (d ++ [x]).length = d.length + 1 := fun x => by simp
    have hgx : ∀ x : Nd, (d ++ [x]).getD d.length default = x := fun x => by simp
    have hup : ∀ x : Nd, upOf (d ++ [x]) d.length = x.up := fun x => by unfold upOf; rw [hgx]
    have hkx : ∀ x : Nd, sK (d ++ [x]) d.length = sK d d.length := fun x => sK_pre d [x] _ (Nat.le_refl _)
    have htx : ∀ x : Nd, sT (d ++ [x]) d.length = sT d d.length := fun x => sT_pre d [x] _ (Nat.le_refl _)
    have hfall := sK_fall d d.length
    split at h
    · rename_i hs
      split at h
      · rename_i hc
        injection h with h
        subst h
        refine ⟨?_, hc.2⟩
        rw [hc.1] at ho
        have : (sK d d.length).length ≤ m := by
          have := congrArg List.length ho
          simp only [List.reverse_nil, List.length_nil, List.length_drop] at this
          omega
        have : m = (sK d d.length).length := by omega
        rw [hs, this, List.append_nil]; rfl
      · cases h
    · split at h
      · cases h
      · split at h
        · rename_i hs
          have hm0 : m = 0 := by
            rcases Nat.eq_zero_or_pos m with e | e
            · exact e
            · rw [hp e] at hs; cases hs
          subst hm0
          split at h
          · rename_i x r hx
            obtain ⟨e1, e2⟩ := nodeRd_text hx
            have ek : sK (d ++ [x]) (d ++ [x]).length = ((d.length : Int) - 1) :: sK d d.length := by
              rw [hlen]
              simp only [sK]
              rw [if_neg (by omega), hup, e2, if_pos rfl, hkx]
            have et : sT (d ++ [x]) (d ++ [x]).length = sT d d.length ++ [40] ++ nodeT0 x := by
              rw [hlen]
              simp only [sT, sepT]
              rw [if_neg (by omega), hup, e2, if_pos rfl, htx, hgx]
            have ih := rdF_show f (d ++ [x]) D _ r 0 h (by simp) (Nat.zero_le _) (by rw [ek, List.reverse_append, ho]; rfl) (fun h => absurd h (Nat.lt_irrefl 0))
            refine ⟨?_, ih.2⟩
            rw [ih.1, et, sign1 hs, e1]
            simp
          · cases h
        · rename_i hns
          split at h
          · cases h
          · rename_i hop
            obtain ⟨op', u, rfl⟩ : ∃ op' u, op = op' ++ [u] := ⟨op.dropLast, op.getLast hop, (List.dropLast_concat_getLast hop).symm⟩
            rw [List.reverse_append] at ho
            simp only [List.reverse_cons, List.reverse_nil, List.nil_append, List.cons_append] at ho
            have hmlt : m < (sK d d.length).length := by
              have := congrArg List.length ho
              simp only [List.length_cons, List.length_drop] at this
              omega
            split at h
            · rename_i hs
              split at h
              · cases h
              · rename_i hs2
                rw [List.dropLast_concat] at h
                have ih := rdF_show f d D op' (signR s [41]) (m + 1) h h0 (by omega) (by
                  have : (sK d d.length).drop (m + 1) = ((sK d d.length).drop m).drop 1 := by rw [List.drop_drop]
                  rw [this, ← ho]; rfl) (fun _ => by simpa using hs2)
                refine ⟨?_, ih.2⟩
                rw [ih.1]
                conv => rhs; rw [sign1 hs]
                rw [List.replicate_succ']
                simp
            · split at h
              · rename_i hs
                have hgl : (op' ++ [u]).getLastD 0 = u := by simp
                rw [hgl] at h
                split at h
                · rename_i x r hx
                  obtain ⟨e1, e2⟩ := nodeRd_text hx
                  have ed : sK d d.length = (sK d d.length).take m ++ u :: op'.reverse := by
                    rw [ho]; exact (List.take_append_drop m _).symm
                  have hu : u < (d.length : Int) - 1 := hfall.2 u (by rw [ed]; simp)
                  have hne : ∀ y ∈ (sK d d.length).take m, y ≠ u := by
                    intro y hy
                    have hp := hfall.1
                    rw [ed] at hp
                    have := (List.pairwise_append.1 hp).2.2 y hy u List.mem_cons_self
                    omega
                  have hpop : popTo u (sK d d.length) = u :: op'.reverse := by
                    conv => lhs; rw [ed]
                    exact popTo_at _ _ hne
                  have ek : sK (d ++ [x]) (d ++ [x]).length = u :: op'.reverse := by
                    rw [hlen]
                    simp only [sK]
                    rw [if_neg (by omega), hup, e2, if_neg (by omega), hkx, hpop]
                  have hcnt : (sK d d.length).length - (u :: op'.reverse).length = m := by
                    have := congrArg List.length ho
                    simp only [List.length_drop, List.length_cons] at this ⊢
                    omega
                  have et : sT (d ++ [x]) (d ++ [x]).length = sT d d.length ++ (List.replicate m 41 ++ [32]) ++ nodeT0 x := by
                    rw [hlen]
                    simp only [sT, sepT]
                    rw [if_neg (by omega), hup, e2, if_neg (by omega), htx, hgx, hkx, hpop, hcnt]
                  have ih := rdF_show f (d ++ [x]) D _ r 0 h (by simp) (Nat.zero_le _) (by rw [ek, List.reverse_append]; rfl) (fun h => absurd h (Nat.lt_irrefl 0))
                  refine ⟨?_, ih.2⟩
                  rw [ih.1, et]
                  conv => rhs; rw [sign1 hs, e1]
                  simp
                · cases h
              · cases h
theorem readD_show {s : Bys} {D : List Nd} (h : readD s = some D) : showT D = s ∧ checkDoc D = 0 := by
  unfold readD at h
  split at h
  · rename_i x r hx
    obtain ⟨e1, e2⟩ := nodeRd_text hx
    have := rdF_show _ [x] D [] r 0 h (by simp) (Nat.zero_le _) rfl (fun h => absurd h (Nat.lt_irrefl 0))
    refine ⟨?_, this.2⟩
    rw [this.1, e1]
    rfl
  · cases h
end Go.Hx
end

section
/-
  Documents as text: the lenient reader takes the text of a tree too. No condition.
-/
set_option maxRecDepth 100000
set_option linter.unusedSimpArgs false
namespace Go.Hx
variable [Glob]

/-! ### The lenient reader -/

def lcl : Nat → Bys → List Bys → List Bys × Bys
  | 0, s, l => (l, s)
  | f + 1, s, l => if signOk s [46] then lcl f (nmR (signR s [46])) (l ++ [nmOf (signR s [46])]) else (l, s)
def vlOf (s : Bys) : Bys := s.takeWhile fun c => decide (c ≠ 34)
def vlR (s : Bys) : Bys := s.dropWhile fun c => decide (c ≠ 34)
def latQ (s : Bys) : Bys := signR (nmR (signR s [91])) [61, 34]
def lat : Nat → Bys → List (Bys × Bys) → List (Bys × Bys) × Bys
  | 0, s, l => (l, s)
  | f + 1, s, l => if signOk s [91] then lat f (signR (vlR (latQ s)) [34, 93]) (l ++ [(nmOf (signR s [91]), vlOf (latQ s))]) else (l, s)
def lid (s : Bys) : Bys × Bys := if signOk s [35] then (nmOf (signR s [35]), nmR (signR s [35])) else ([], s)
def lclR (s : Bys) : List Bys × Bys := lcl (s.length + 1) s []
def latR (s : Bys) : List (Bys × Bys) × Bys := lat (s.length + 1) s []
def lnd (up : Int) (s : Bys) : Nd × Bys :=
  ({ up := up, tag := nmOf s, id := (lid (nmR s)).1, cls := (lclR (lid (nmR s)).2).1, att := (latR (lclR (lid (nmR s)).2).2).1 }, (latR (lclR (lid (nmR s)).2).2).2)
def lnLoop (g : Bys → List Nd → Int → List Nd × Bys) : Nat → Bys → List Nd → Int → List Nd × Bys
  | 0, s, l, _ => (l, s)
  | k + 1, s, l, n => if 64 < l.length then (l, s) else if signOk (g s l n).2 [32] then lnLoop g k (signR (g s l n).2 [32]) (g s l n).1 n else g s l n
def lnF : Nat → Bys → List Nd → Int → List Nd × Bys
  | 0, s, l, _ => (l, s)
  | f + 1, s, l, up => if signOk (lnd up s).2 [40] then
      ((lnLoop (lnF f) 66 (signR (lnd up s).2 [40]) (l ++ [(lnd up s).1]) l.length).1, signR (lnLoop (lnF f) 66 (signR (lnd up s).2 [40]) (l ++ [(lnd up s).1]) l.length).2 [41])
    else (l ++ [(lnd up s).1], (lnd up s).2)

theorem lcl_back : ∀ (m : List Bys) (f : Nat) (l : List Bys) (r : Bys), (∀ c ∈ m, isName c = true) → m.length < f → Hd pA r → lcl f (clsT m ++ r) l = (l ++ m, r)
  | [], f, l, r, _, hf, hr => by
    obtain ⟨f', rfl⟩ : ∃ f', f = f' + 1 := ⟨f - 1, by simp at hf; omega⟩
    have e : clsT [] ++ r = r := rfl
    rw [e]
    simp only [lcl]
    rw [sign_not hr (by rfl)]
    simp
  | c :: m, f, l, r, hm, hf, hr => by
    obtain ⟨f', rfl⟩ : ∃ f', f = f' + 1 := ⟨f - 1, by simp at hf; omega⟩
    have hc : isName c = true := hm c List.mem_cons_self
    have hh : Hd pI (clsT m ++ r) := (clsT_hd rfl m).app (hr.mono fun _ h => pC_I (pA_C h))
    have hn := nm_app hc hh
    rw [clsT_cons]
    simp only [List.cons_append, List.append_assoc, lcl]
    rw [(sign1_at _ _).1, (sign1_at _ _).2, if_pos rfl, hn.1, hn.2, lcl_back m f' (l ++ [c]) r (fun x hx => hm x (List.mem_cons_of_mem _ hx)) (by simp at hf; omega) hr]
    simp
theorem lat_back : ∀ (m : List (Bys × Bys)) (f : Nat) (l : List (Bys × Bys)) (r : Bys), (∀ a ∈ m, isName a.1 = true ∧ isValue a.2 = true) → m.length < f → Hd pS r → lat f (attT m ++ r) l = (l ++ m, r)
  | [], f, l, r, _, hf, hr => by
    obtain ⟨f', rfl⟩ : ∃ f', f = f' + 1 := ⟨f - 1, by simp at hf; omega⟩
    have e : attT [] ++ r = r := rfl
    rw [e]
    simp only [lat]
    rw [sign_not hr (by rfl)]
    simp
  | a :: m, f, l, r, hm, hf, hr => by
    obtain ⟨f', rfl⟩ : ∃ f', f = f' + 1 := ⟨f - 1, by simp at hf; omega⟩
    have hc := hm a List.mem_cons_self
    have hn : nmOf (a.1 ++ 61 :: 34 :: (a.2 ++ 34 :: 93 :: (attT m ++ r))) = a.1 ∧ nmR (a.1 ++ 61 :: 34 :: (a.2 ++ 34 :: 93 :: (attT m ++ r))) = 61 :: 34 :: (a.2 ++ 34 :: 93 :: (attT m ++ r)) := by
      have h1 := hc.1
      unfold isName at h1
      simp only [Bool.and_eq_true] at h1
      exact tw_app h1.2 (fun c l e => by injection e with e _; rw [← e]; rfl)
    have hv : vlOf (a.2 ++ 34 :: 93 :: (attT m ++ r)) = a.2 ∧ vlR (a.2 ++ 34 :: 93 :: (attT m ++ r)) = 34 :: 93 :: (attT m ++ r) := by
      refine tw_app ?_ (fun c l e => by injection e with e _; rw [← e]; rfl)
      rw [List.all_eq_true]
      intro c h
      exact decide_eq_true (val_no hc.2 c h)
    rw [attT_cons]
    simp only [List.cons_append, List.append_assoc, lat]
    have hq : latQ (91 :: (a.1 ++ 61 :: 34 :: (a.2 ++ 34 :: 93 :: (attT m ++ r)))) = a.2 ++ 34 :: 93 :: (attT m ++ r) := by
      unfold latQ
      rw [(sign1_at _ _).2, hn.2, (sign2_at _ _ _).2]
    rw [hq, (sign1_at _ _).1, (sign1_at _ _).2, if_pos rfl, hn.1, hv.1, hv.2, (sign2_at _ _ _).2, lat_back m f' (l ++ [(a.1, a.2)]) r (fun x hx => hm x (List.mem_cons_of_mem _ hx)) (by simp at hf; omega) hr]
    simp
theorem lid_back {i r : Bys} (h : i = [] ∨ isName i = true) (hr : Hd pC r) : lid (idT i ++ r) = (i, r) := by
  rcases h with rfl | h
  · show lid r = _
    unfold lid
    rw [sign_not hr (by rfl)]; rfl
  · have e : (i == []) = false := by
      cases i with
      | nil => cases h
      | cons => rfl
    have hn := nm_app h (hr.mono fun _ => pC_I)
    unfold lid idT
    rw [e]
    simp only [Bool.false_eq_true, if_false, List.cons_append]
    rw [(sign1_at _ _).1, (sign1_at _ _).2, if_pos rfl, hn.1, hn.2]
theorem lnd_back {x : Nd} (hx : nodeFine x = true) {r : Bys} (hr : Hd pS r) (up : Int) : lnd up (nodeT0 x ++ r) = ({ x with up := up }, r) := by
  obtain ⟨h1, h2, h3, h4⟩ := fine_parts hx
  have r1 : Hd pA (attT x.att ++ r) := (attT_hd rfl _).app (hr.mono fun _ => pS_A)
  have r2 : Hd pC (clsT x.cls ++ (attT x.att ++ r)) := (clsT_hd rfl _).app (r1.mono fun _ => pA_C)
  have r3 : Hd pI (idT x.id ++ (clsT x.cls ++ (attT x.att ++ r))) := (idT_hd rfl _).app (r2.mono fun _ => pC_I)
  have hn := nm_app h1 r3
  have e1 : lclR (clsT x.cls ++ (attT x.att ++ r)) = (x.cls, attT x.att ++ r) := by
    unfold lclR
    rw [lcl_back _ _ _ _ h3 (by have := clsT_ge x.cls; simp only [List.length_append]; omega) r1, List.nil_append]
  have e2 : latR (attT x.att ++ r) = (x.att, r) := by
    unfold latR
    rw [lat_back _ _ _ _ h4 (by have := attT_ge x.att; simp only [List.length_append]; omega) hr, List.nil_append]
  unfold lnd nodeT0
  simp only [List.append_assoc]
  rw [hn.1, hn.2, lid_back h2 r2]
  simp only [e1, e2]
theorem szTs_ge : ∀ ks : List Tr, ks.length ≤ szTs ks
  | [] => Nat.le_refl _
  | .mk x k :: ks => by have := szTs_ge ks; simp only [szTs, szT, List.length_cons]; omega
theorem len_loop {f : Nat} (A : ∀ (t : Tr) (l : List Nd) (up : Int) (r : Bys), szT t ≤ f → fineT t = true → Hd pR r → l.length + szT t ≤ 64 → lnF f (txT t ++ r) l up = (layT t l up, r)) :
    ∀ (ks : List Tr) (t : Tr) (L : List Nd) (n : Int) (r : Bys) (k : Nat), szTs (t :: ks) ≤ f → fineTs (t :: ks) = true → Hd pR r → L.length + szTs (t :: ks) ≤ 64 → ks.length < k → lnLoop (lnF f) k (txT t ++ (txTs 32 ks ++ 41 :: r)) L n = (layTs (t :: ks) L n, 41 :: r)
  | [], t, L, n, r, k, hs, hfine, hr, hL, hk => by
    obtain ⟨k', rfl⟩ : ∃ k', k = k' + 1 := ⟨k - 1, by simp at hk; omega⟩
    simp only [szTs] at hs hL
    simp only [fineTs, Bool.and_true] at hfine
    have hz : 0 < szT t := by cases t; simp only [szT]; omega
    have ha := A t L n (txTs 32 [] ++ 41 :: r) (by omega) hfine (sib_hd [] r) (by omega)
    simp only [lnLoop]
    rw [ha, if_neg (by omega)]
    have : signOk (txTs 32 [] ++ 41 :: r) [32] = false := rfl
    rw [this]
    rfl
  | t' :: ks, t, L, n, r, k, hs, hfine, hr, hL, hk => by
    obtain ⟨k', rfl⟩ : ∃ k', k = k' + 1 := ⟨k - 1, by simp at hk; omega⟩
    rw [szTs] at hs hL
    rw [fineTs, Bool.and_eq_true] at hfine
    have hz : 0 < szT t := by cases t; simp only [szT]; omega
    have ha := A t L n (txTs 32 (t' :: ks) ++ 41 :: r) (by omega) hfine.1 (sib_hd _ r) (by omega)
    have e : txTs 32 (t' :: ks) ++ 41 :: r = 32 :: (txT t' ++ (txTs 32 ks ++ 41 :: r)) := by simp only [txTs, List.cons_append, List.append_assoc]
    rw [e] at ha ⊢
    simp only [lnLoop]
    rw [ha, if_neg (by omega)]
    simp only
    rw [(sign1_at _ _).1, (sign1_at _ _).2, if_pos rfl, len_loop A ks t' (layT t L n) n r k' (by omega) hfine.2 hr (by rw [layT_len]; omega) (by simp at hk; omega)]
    simp only [layTs]
theorem lnF_tree : ∀ (f : Nat) (t : Tr) (l : List Nd) (up : Int) (r : Bys), szT t ≤ f → fineT t = true → Hd pR r → l.length + szT t ≤ 64 → lnF f (txT t ++ r) l up = (layT t l up, r)
  | 0, t, l, up, r, h, _, _, _ => by cases t; simp only [szT] at h; omega
  | f + 1, .mk x ks, l, up, r, h, hfine, hr, hL => by
    simp only [szT] at h hL
    simp only [fineT, Bool.and_eq_true] at hfine
    rw [txT_eq, List.append_assoc]
    simp only [lnF]
    rw [lnd_back hfine.1 (kT_hd ks (hr.mono fun _ => pR_S)) up]
    simp only
    cases ks with
    | nil =>
      have e : kT [] ++ r = r := rfl
      rw [e, sign_not (hr.mono fun _ h => h) (by rfl)]
      simp only [layT, layTs]; rfl
    | cons t ks =>
      have hb := szTs_ge ks
      have hc : szTs (t :: ks) = szT t + szTs ks := rfl
      rw [kT_cons, (sign1_at _ _).1, (sign1_at _ _).2, if_pos rfl, len_loop (lnF_tree f) ks t _ _ r 66 (by omega) hfine.2 hr (by simp only [List.length_append, List.length_cons, List.length_nil]; omega) (by omega)]
      simp only [(sign1_at _ _).2, layT]

/-! ### What the document says of a text -/

def lenD (s : Bys) : List Nd := (lnF 66 s [] (-1)).1
theorem lenD_tree {t : Tr} (ht : fineT t = true) (hs : szT t ≤ 64) : lenD (txT t) = layT t [] (-1) := by
  have := lnF_tree 66 t [] (-1) [] (by omega) ht Hd.nil (by simpa using hs)
  rw [List.append_nil] at this
  unfold lenD
  rw [this]
end Go.Hx
end

section
/-
  Right documents and their texts: each is read back from its text by both readers, and shown as its text; a text that is read is the text of what came. No condition.
-/
set_option maxRecDepth 100000
set_option linter.unusedSimpArgs false
namespace Go.Hx
variable [Glob]

def docText (d : List Nd) : Bys := txT (treeF d d.length 0)
theorem fine_map {d : List Nd} (f : Nat) (A : ∀ n, n < d.length → fineT (treeF d f n) = true) : ∀ ks : List Int, (∀ k ∈ ks, ∃ m : Nat, k = m ∧ m < d.length) → fineTs (ks.map fun k => treeF d f k.toNat) = true
  | [], _ => rfl
  | k :: ks, h => by
    obtain ⟨m, e, hm⟩ := h k List.mem_cons_self
    simp only [List.map_cons, fineTs, fine_map f A ks (fun x hx => h x (List.mem_cons_of_mem _ hx)), Bool.and_true]
    rw [e, Int.toNat_natCast]
    exact A m hm
theorem kids_mem {d : List Nd} (hd : docOk d d.length = true) (n : Nat) : ∀ k ∈ kidsOf d n, ∃ m : Nat, k = m ∧ m < d.length := by
  intro k hk
  obtain ⟨i, hi, e⟩ := List.getElem_of_mem hk
  obtain ⟨m, h1, h2, _⟩ := kidsOf_get hd hi
  refine ⟨m, ?_, h2⟩
  rw [← h1, ← e]
  simp [hi]
theorem tree_fine {d : List Nd} (hd : docOk d d.length = true) : ∀ (f n : Nat), n < d.length → fineT (treeF d f n) = true
  | 0, n, h => by simp only [treeF, fineT, fineTs, docOk_node hd h, Bool.and_self]
  | f + 1, n, h => by
    simp only [treeF, fineT, docOk_node hd h, Bool.true_and]
    exact fine_map f (tree_fine hd f) _ (kids_mem hd n)
theorem seg_all (d : List Nd) : seg d 0 0 d.length = d := by
  unfold seg
  apply List.ext_getElem
  · simp
  · intro i h1 h2
    simp [upOf, h2]
theorem doc_tree {d : List Nd} (h : checkDoc d = 0) : layT (treeF d d.length 0) [] (-1) = d := by
  obtain ⟨h1, _, hd⟩ := checkDoc_ok h
  rw [lay_tree hd 0 d.length 0 (by omega) (by omega) [] (-1) rfl, behind_zero hd (by omega), List.nil_append]
  have e := seg_all d
  rw [seg_cons 0 (by omega), up_zero hd (by omega)] at e
  exact e
theorem text_facts {d : List Nd} (h : checkDoc d = 0) : readD (docText d) = some d ∧ lenD (docText d) = d ∧ showT d = docText d := by
  obtain ⟨h1, h2, hd⟩ := checkDoc_ok h
  have hf := tree_fine hd d.length 0 (by omega)
  have hs : szT (treeF d d.length 0) ≤ 64 := by
    rw [treeF_sz hd (by omega), behind_zero hd (by omega)]; omega
  have hl := doc_tree h
  have hr := readD_tree hf hs (by rw [hl]; exact h)
  rw [hl] at hr
  have hq := lenD_tree hf hs
  rw [hl] at hq
  exact ⟨hr, hq, (readD_show hr).1⟩
theorem read_iff {s : Bys} {D : List Nd} : readD s = some D ↔ checkDoc D = 0 ∧ docText D = s := by
  constructor
  · intro h
    obtain ⟨h1, h2⟩ := readD_show h
    exact ⟨h2, by rw [← (text_facts h2).2.2, h1]⟩
  · rintro ⟨h1, rfl⟩
    exact (text_facts h1).1
/-! ### How long a text is -/

theorem isName_len {s : Bys} (h : isName s = true) : s.length ≤ 12 := by
  unfold isName at h
  simp only [Bool.and_eq_true, decide_eq_true_eq] at h
  exact h.1.1.2
theorem isValue_len {s : Bys} (h : isValue s = true) : s.length ≤ 16 := by
  unfold isValue at h
  simp only [Bool.and_eq_true, decide_eq_true_eq] at h
  exact h.1
theorem short_nd {x : Nd} (h : nodeFine x = true) : ShortNd x := by
  obtain ⟨h1, h2, h3, h4⟩ := fine_parts h
  obtain ⟨h5, h6⟩ := nodeFine_len h
  refine ⟨isName_len h1, ?_, h5, h6, ?_, ?_⟩
  · rcases h2 with e | e
    · rw [e]; exact Nat.zero_le _
    · exact isName_len e
  · intro i hi
    have : x.cls.getD i [] ∈ x.cls := by simp [hi]
    exact isName_len (h3 _ this)
  · intro i hi
    have : x.att.getD i default ∈ x.att := by simp [hi]
    exact ⟨isName_len (h4 _ this).1, isValue_len (h4 _ this).2⟩
theorem node_len {x : Nd} (h : ShortNd x) : (nodeT0 x).length ≤ 235 := by
  have h1 := clsT_le h x.cls.length
  have h2 := attT_le h x.att.length
  have h3 := idT_le h
  have h4 := h.tag
  rw [List.take_length] at h1 h2
  simp only [nodeT0, List.length_append]
  omega
mutual
theorem txT_len : ∀ t : Tr, fineT t = true → (txT t).length + 1 ≤ 237 * szT t
  | .mk x ks, h => by
    simp only [fineT, Bool.and_eq_true] at h
    have h1 := node_len (short_nd h.1)
    have h2 := txTs_len ks h.2 40
    simp only [txT, szT, List.length_append]
    split
    · simp only [List.length_nil]; omega
    · simp only [List.length_append, List.length_cons, List.length_nil]; omega
theorem txTs_len : ∀ (ks : List Tr), fineTs ks = true → ∀ c : UInt8, (txTs c ks).length ≤ 237 * szTs ks
  | [], _, c => by simp [txTs]
  | t :: ks, h, c => by
    simp only [fineTs, Bool.and_eq_true] at h
    have h1 := txT_len t h.1
    have h2 := txTs_len ks h.2 32
    simp only [txTs, szTs, List.length_cons, List.length_append]
    omega
end
theorem szT_le {d : List Nd} (hd : docOk d d.length = true) (hl : d.length ≤ 64) {f n : Nat} (hn : n < d.length) (hf : d.length ≤ n + f) : szT (treeF d f n) ≤ 64 := by
  have hb := behind_le hn
  have h1 := layT_len (treeF d f n) (List.replicate n default) 0
  rw [lay_tree hd 0 f n hn hf (List.replicate n default) 0 (by simp)] at h1
  simp [seg_len] at h1
  omega
theorem docText_len {d : List Nd} (h : checkDoc d = 0) : (docText d).length ≤ 15200 := by
  obtain ⟨h1, h2, hd⟩ := checkDoc_ok h
  have a := txT_len _ (tree_fine hd d.length 0 (by omega))
  have b := szT_le hd h2 (f := d.length) (n := 0) (by omega) (by omega)
  unfold docText
  omega
end Go.Hx
end

section
-- DOM getO
set_option maxRecDepth 100000
set_option linter.unusedSimpArgs false
namespace Go.Hx
open Go.Proofs Go.RowKit
variable [Glob]

attribute [local go_sem] ndsV_len clsV_len attV_len intsR_len ndV cellsEq getO
end Go.Hx
end

section
-- DOM getO
set_option maxRecDepth 100000
set_option linter.unusedSimpArgs false
namespace Go.Hx
open Go.Proofs Go.RowKit
variable [Glob]

attribute [local go_sem] ndsV_len clsV_len attV_len intsR_len ndV cellsEq getO
end Go.Hx
end

section
-- DOM getO
set_option maxRecDepth 100000
set_option linter.unusedSimpArgs false
namespace Go.Hx
open Go.Proofs Go.RowKit
variable [Glob]

attribute [local go_sem] ndsV_len clsV_len attV_len intsR_len ndV cellsEq getO
end Go.Hx
end

section
-- DOM getO, ovI_len
set_option maxRecDepth 100000
set_option linter.unusedSimpArgs false
namespace Go.Hx
open Go.Proofs Go.RowKit
variable [Glob]

attribute [local go_sem] ndsV_len clsV_len attV_len intsR_len ndV cellsEq getO
/-- The stack of open elements. -/
def ovI (l : List Int) : List (List OV) := l.map fun n => [.p (bI n)]
theorem ovI_len (l : List Int) : (ovI l).length = l.length := by simp [ovI]
attribute [local go_sem] ovI_len
theorem ovI_app (a b : List Int) : ovI (a ++ b) = ovI a ++ ovI b := by simp [ovI]
theorem ovI_drop (l : List Int) (u : Int) : (ovI (l ++ [u])).take l.length = ovI l := by rw [ovI_app, ← ovI_len l, List.take_left]
theorem ovI_last (l : List Int) (u : Int) : (ovI (l ++ [u])).getD l.length [] = [.p (bI u)] := by rw [ovI_app, ← ovI_len l]; simp [ovI]
theorem readRes_tup (s : Bys) : (∃ x, (readRes s).res = .val x) ∨ ∃ xs, (readRes s).res = .tup xs := by
  unfold readRes
  split <;> exact .inr ⟨_, rfl⟩
theorem u8_eq (c : UInt8) (n : Nat) (hn : n < 256) : (((c.toNat : Nat) : Int) == (n : Int)) = (c == UInt8.ofNat n) := by
  rw [Bool.eq_iff_iff, beq_iff_eq, beq_iff_eq]
  constructor
  · intro h
    apply UInt8.toNat_inj.1
    rw [UInt8.toNat_ofNat_of_lt' hn]
    omega
  · rintro rfl
    rw [UInt8.toNat_ofNat_of_lt' hn]
set_option maxHeartbeats 8000000 in
theorem c_mark_Read (hM : MaxOk) (s : Bys) (hs : s.length ≤ 1048576) : Contract Tryd.prog fn_mark_Read [.val (sv s)] (readRes s) := by
  refine mk_mark_Read (base := 0) ⟨Nat.le_of_ble_eq_true rfl, Nat.le_of_ble_eq_true rfl, Nat.le_of_ble_eq_true rfl, rfl⟩ (readRes_tup s) read_ret (fun hfit => ?_)
  unfold F0 mark_Read_E mark_Read_h0
  simp (config := { maxSteps := 2000000 }) only [markU, List.set_cons_succ, List.set_cons_zero, List.map_cons, List.map_nil, argCt, setCells, ioOf, List.length_cons, List.length_nil, Nat.reduceAdd, Nat.reduceSub, List.replicate, List.cons_append, List.nil_append]
  try simp (config := { maxSteps := 2000000 }) only [go_sem, reduceCtorEq, Nat.reduceAdd, Nat.reduceEqDiff, reduceIte, Nat.reduceLeDiff, Nat.reduceLT, Nat.reduceSub]
  refine ⟨?_, ?_⟩
  · intro x hx
    rcases List.mem_cons.1 hx with rfl | hx
    · rfl
    · rcases List.mem_cons.1 hx with rfl | hx
      · rfl
      · cases hx
  have hN := c_pen_node hM (-1) s hs
  cases h1 : nodeRd (-1) s with
  | none =>
    have e1 : nodeRes (-1) s = { res := .pan bkV } := by unfold nodeRes; rw [h1]
    have e2 : readRes s = { res := .tup [docV [], iv 1] } := by unfold readRes readD; rw [h1]
    rw [e1] at hN
    rw [e2]
    refine call_pan (by repeat' constructor) hN ?_
    try simp (config := { maxSteps := 2000000 }) only [go_sem, reduceCtorEq, Nat.reduceAdd, Nat.reduceEqDiff, reduceIte, Nat.reduceLeDiff, Nat.reduceLT, Nat.reduceSub]
    all_goals (repeat (with_reducible refine sAnd ?_))
    intro F' hag
    exact pan_two (L := 116) (hag.1.trans rfl) (by decide) (by decide) (by decide) ((hag.2 2 (by decide)).trans rfl) ((hag.2 3 (by decide)).trans rfl) rfl read_pan
  | some xr =>
    obtain ⟨x, r⟩ := xr
    have e1 : nodeRes (-1) s = { res := .val (.agg (ndV x)), io := [bS r] } := by unfold nodeRes; rw [h1]
    rw [e1] at hN
    refine call_val (by repeat' constructor) (hN) ?_
    try simp (config := { maxSteps := 2000000 }) only [go_sem, reduceCtorEq, Nat.reduceAdd, Nat.reduceEqDiff, reduceIte, Nat.reduceLeDiff, Nat.reduceLT, Nat.reduceSub]
    all_goals (repeat (with_reducible refine sAnd ?_))
    have hr0 := nodeT0_pos h1
    have hR0 : rdF (r.length + 1) [x] [] r = readD s := by unfold readD; rw [h1]
    refine loop_sets (fun x : Nat × List Nd × List Int × Bys => [(5, .ov (.one (.os none ty_int 1 (ovI x.2.2.1)))), (113, .own ty_api_Node 5 (ndsV x.2.1)), (115, .pv (.one (bS x.2.2.2))), (6, .un), (22, .un), (28, .un), (33, .un), (50, .un), (56, .un), (64, .un), (99, .un)]) (fun x : Nat × List Nd × List Int × Bys => x.1) (fun x : Nat × List Nd × List Int × Bys => x.2.2.2.length < x.1 ∧ x.2.2.2.length ≤ s.length ∧ 1 ≤ x.2.1.length ∧ x.2.1.length ≤ 65 ∧ x.2.2.1.length ≤ x.2.1.length ∧ rdF x.1 x.2.1 x.2.2.1 x.2.2.2 = readD s) ((r.length + 1, [x], [], r)) ?_ ⟨Nat.lt_succ_self _, hr0, Nat.le_refl _, by simp, by simp, hR0⟩ ?_
    focus (simp (config := { maxSteps := 2000000 }) only [go_sem, reduceCtorEq, Nat.reduceAdd, Nat.reduceEqDiff, reduceIte, Nat.reduceLeDiff, Nat.reduceLT, Nat.reduceSub, le_cons, le_nil, le_un, le_same]; all_goals (repeat' (first | exact trivial | exact le_int (by omega) | exact le_bool rfl | exact le_eq rfl | exact le_nlo | exact le_refl _ | refine And.intro ?_ ?_)))
    rintro ⟨f, d, op, t⟩ ⟨k1, k2, k3, k4, k5, hR⟩
    simp only at k1 k2 k3 k4 k5 hR
    obtain ⟨f', rfl⟩ : ∃ f', f = f' + 1 := ⟨f - 1, by omega⟩
    rw [rdF] at hR
    try simp (config := { maxSteps := 2000000 }) only [go_sem, reduceCtorEq, Nat.reduceAdd, Nat.reduceEqDiff, reduceIte, Nat.reduceLeDiff, Nat.reduceLT, Nat.reduceSub, ndsV_len]
    all_goals (repeat (with_reducible refine sAnd ?_))
    refine cond_of (by rfl) trivial (fun h => ?_) (fun h => ?_)
    · have ht : ¬ t = [] := by simpa using h
      rw [if_neg ht] at hR
      try simp (config := { maxSteps := 2000000 }) only [go_sem, reduceCtorEq, Nat.reduceAdd, Nat.reduceEqDiff, reduceIte, Nat.reduceLeDiff, Nat.reduceLT, Nat.reduceSub, ndsV_len]
      all_goals (repeat (with_reducible refine sAnd ?_))
      refine cond_of (by rfl) trivial (fun h64 => ?_) (fun h64 => ?_)
      · have : 64 < d.length := by simp at h64; omega
        rw [if_pos this] at hR
        have e2 : readRes s = { res := .tup [docV [], iv 1] } := by unfold readRes; rw [← hR]
        rw [e2]
        try simp (config := { maxSteps := 2000000 }) only [go_sem, reduceCtorEq, Nat.reduceAdd, Nat.reduceEqDiff, reduceIte, Nat.reduceLeDiff, Nat.reduceLT, Nat.reduceSub]
        all_goals (repeat (with_reducible refine sAnd ?_))
        exact pan_two (L := 116) rfl (by decide) (by decide) (by decide) rfl rfl rfl read_pan
      · have : ¬ 64 < d.length := by simp at h64; omega
        rw [if_neg this] at hR
        try simp (config := { maxSteps := 2000000 }) only [go_sem, reduceCtorEq, Nat.reduceAdd, Nat.reduceEqDiff, reduceIte, Nat.reduceLeDiff, Nat.reduceLT, Nat.reduceSub]
        all_goals (repeat (with_reducible refine sAnd ?_))
        refine call_val (by repeat' constructor) (c_pen_has t [40]) ?_
        try simp (config := { maxSteps := 2000000 }) only [go_sem, reduceCtorEq, Nat.reduceAdd, Nat.reduceEqDiff, reduceIte, Nat.reduceLeDiff, Nat.reduceLT, Nat.reduceSub]
        all_goals (repeat (with_reducible refine sAnd ?_))
        refine cond_of (by rfl) trivial (fun g1 => ?_) (fun g1 => ?_)
        · rw [g1, if_pos rfl] at hR
          have hd1 := sign_drop g1
          have hN := c_pen_node hM ((d.length : Int) - 1) (signR t [40]) (by omega)
          cases h2 : nodeRd ((d.length : Int) - 1) (signR t [40]) with
          | none =>
            rw [h2] at hR
            have e3 : nodeRes ((d.length : Int) - 1) (signR t [40]) = { res := .pan bkV } := by unfold nodeRes; rw [h2]
            rw [e3] at hN
            have e2 : readRes s = { res := .tup [docV [], iv 1] } := by unfold readRes; rw [← hR]
            rw [e2]
            try simp (config := { maxSteps := 2000000 }) only [go_sem, reduceCtorEq, Nat.reduceAdd, Nat.reduceEqDiff, reduceIte, Nat.reduceLeDiff, Nat.reduceLT, Nat.reduceSub, ndsV_len]
            all_goals (repeat (with_reducible refine sAnd ?_))

            refine call_pan (by repeat' constructor) hN ?_
            try simp (config := { maxSteps := 2000000 }) only [go_sem, reduceCtorEq, Nat.reduceAdd, Nat.reduceEqDiff, reduceIte, Nat.reduceLeDiff, Nat.reduceLT, Nat.reduceSub]
            all_goals (repeat (with_reducible refine sAnd ?_))
            intro F' hag
            exact pan_two (L := 116) (hag.1.trans rfl) (by decide) (by decide) (by decide) ((hag.2 2 (by decide)).trans rfl) ((hag.2 3 (by decide)).trans rfl) rfl read_pan
          | some yu =>
            obtain ⟨y, u⟩ := yu
            rw [h2] at hR
            have e3 : nodeRes ((d.length : Int) - 1) (signR t [40]) = { res := .val (.agg (ndV y)), io := [bS u] } := by unfold nodeRes; rw [h2]
            rw [e3] at hN
            have hu := nodeT0_pos h2
            have hne : (((d.length + 1 : Nat) : Int) == (d.length : Int)) = false := by rw [beq_eq_false_iff_ne]; omega
            try simp (config := { maxSteps := 2000000 }) only [go_sem, reduceCtorEq, Nat.reduceAdd, Nat.reduceEqDiff, reduceIte, Nat.reduceLeDiff, Nat.reduceLT, Nat.reduceSub, ndsV_len]
            all_goals (repeat (with_reducible refine sAnd ?_))

            refine call_val (by repeat' constructor) (hN) ?_
            try simp (config := { maxSteps := 2000000 }) only [go_sem, reduceCtorEq, Nat.reduceAdd, Nat.reduceEqDiff, reduceIte, Nat.reduceLeDiff, Nat.reduceLT, Nat.reduceSub, ndsV_len, List.length_append, List.length_cons, List.length_nil, Nat.zero_add, hne]
            all_goals (repeat (with_reducible refine sAnd ?_))
            refine cond_of (by rfl) trivial (fun g9 => ?_) (fun g9 => ?_)
            · simp at g9
            · try simp (config := { maxSteps := 2000000 }) only [go_sem, reduceCtorEq, Nat.reduceAdd, Nat.reduceEqDiff, reduceIte, Nat.reduceLeDiff, Nat.reduceLT, Nat.reduceSub]
              all_goals (repeat (with_reducible refine sAnd ?_))
              refine ⟨(f', d ++ [y], op ++ [(d.length : Int) - 1], u), by simp only; omega, ⟨by simp only; omega, by simp only; omega, by simp only [List.length_append, List.length_cons, List.length_nil]; omega, by simp only [List.length_append, List.length_cons, List.length_nil]; omega, by simp only [List.length_append, List.length_cons, List.length_nil]; omega, hR⟩, ?_⟩
              simp (config := { maxSteps := 2000000 }) only [go_sem, reduceCtorEq, Nat.reduceAdd, Nat.reduceEqDiff, reduceIte, Nat.reduceLeDiff, Nat.reduceLT, Nat.reduceSub, le_cons, le_nil, le_un, le_same]
              all_goals (repeat' (first | exact trivial | exact le_int (by omega) | exact le_bool rfl | exact le_eq rfl | exact le_nlo | exact le_refl _ | refine And.intro ?_ ?_))
              all_goals first | exact le_same | exact le_eq (by simp only [ndsV_app, ovI_app]; rfl) | rfl
        · rw [g1, if_neg (by simp)] at hR
          have e40 : signR t [40] = t := by unfold signR; rw [g1]; rfl
          try simp (config := { maxSteps := 2000000 }) only [go_sem, reduceCtorEq, Nat.reduceAdd, Nat.reduceEqDiff, reduceIte, Nat.reduceLeDiff, Nat.reduceLT, Nat.reduceSub]
          all_goals (repeat (with_reducible refine sAnd ?_))
          rw [e40]
          try simp (config := { maxSteps := 2000000 }) only [go_sem, reduceCtorEq, Nat.reduceAdd, Nat.reduceEqDiff, reduceIte, Nat.reduceLeDiff, Nat.reduceLT, Nat.reduceSub, ovI_len]
          all_goals (repeat (with_reducible refine sAnd ?_))
          refine cond_of (by rfl) trivial (fun g2 => ?_) (fun g2 => ?_)
          · have hop : op = [] := by
              have : ((op.length : Int)) = 0 := by simpa using g2
              exact List.eq_nil_of_length_eq_zero (by omega)
            rw [if_pos hop] at hR
            have e2 : readRes s = { res := .tup [docV [], iv 1] } := by unfold readRes; rw [← hR]
            rw [e2]
            try simp (config := { maxSteps := 2000000 }) only [go_sem, reduceCtorEq, Nat.reduceAdd, Nat.reduceEqDiff, reduceIte, Nat.reduceLeDiff, Nat.reduceLT, Nat.reduceSub]
            all_goals (repeat (with_reducible refine sAnd ?_))
            exact pan_two (L := 116) rfl (by decide) (by decide) (by decide) rfl rfl rfl read_pan
          · have hop : ¬ op = [] := by
              rintro rfl
              simp at g2
            rw [if_neg hop] at hR
            obtain ⟨op', v, rfl⟩ : ∃ op' v, op = op' ++ [v] := ⟨op.dropLast, op.getLast hop, (List.dropLast_concat_getLast hop).symm⟩
            have hgl : (op' ++ [v]).getLastD 0 = v := by simp
            rw [List.dropLast_concat, hgl] at hR
            have k6 : op'.length + 1 ≤ 65 := by simp only [List.length_append, List.length_cons, List.length_nil] at k5; omega
            have hs40 : signOk t [40] = false := g1
            try simp (config := { maxSteps := 2000000 }) only [go_sem, reduceCtorEq, Nat.reduceAdd, Nat.reduceEqDiff, reduceIte, Nat.reduceLeDiff, Nat.reduceLT, Nat.reduceSub]
            all_goals (repeat (with_reducible refine sAnd ?_))
            refine call_val (by repeat' constructor) (c_pen_has t [41]) ?_
            try simp (config := { maxSteps := 2000000 }) only [go_sem, reduceCtorEq, Nat.reduceAdd, Nat.reduceEqDiff, reduceIte, Nat.reduceLeDiff, Nat.reduceLT, Nat.reduceSub]
            all_goals (repeat (with_reducible refine sAnd ?_))
            refine cond_of (by rfl) trivial (fun g3 => ?_) (fun g3 => ?_)
            · rw [g3, if_pos rfl] at hR
              have hd1 := sign_drop g3
              have hpop : (ovI (op' ++ [v])).take op'.length = ovI op' := ovI_drop op' v
              have hdd : ((d.length : Int) == (d.length : Int)) = true := by simp
              cases hq : signR t [41] with
              | nil =>
                rw [hq] at hR hd1
                rw [show signOk [] [40] = false from rfl, if_neg (by simp)] at hR
                have q1 : (([] : Bys) == []) = true := rfl
                try simp (config := { maxSteps := 2000000 }) only [go_sem, reduceCtorEq, Nat.reduceAdd, Nat.reduceEqDiff, reduceIte, Nat.reduceLeDiff, Nat.reduceLT, Nat.reduceSub, ndsV_len, List.length_append, List.length_cons, List.length_nil, Nat.zero_add, toNat_s, ovI_len, hdd, q1, Bool.not_true, Bool.not_false]
                all_goals (repeat (with_reducible refine sAnd ?_))
                refine cond_of (by rfl) trivial (fun g9 => ?_) (fun g9 => ?_)
                · simp at g9
                · try simp (config := { maxSteps := 2000000 }) only [go_sem, reduceCtorEq, Nat.reduceAdd, Nat.reduceEqDiff, reduceIte, Nat.reduceLeDiff, Nat.reduceLT, Nat.reduceSub]
                  all_goals (repeat (with_reducible refine sAnd ?_))
                  refine ⟨(f', d, op', []), by simp only; omega, ⟨by simp only; omega, by simp only; omega, k3, k4, by simp only [List.length_append, List.length_cons, List.length_nil] at k5 ⊢; omega, hR⟩, ?_⟩
                  simp (config := { maxSteps := 2000000 }) only [go_sem, reduceCtorEq, Nat.reduceAdd, Nat.reduceEqDiff, reduceIte, Nat.reduceLeDiff, Nat.reduceLT, Nat.reduceSub, le_cons, le_nil, le_un, le_same]
                  all_goals (repeat' (first | exact trivial | exact le_int (by omega) | exact le_bool rfl | exact le_eq rfl | exact le_nlo | exact le_refl _ | refine And.intro ?_ ?_))
                  all_goals first | exact le_same | exact le_eq (by rw [hpop]) | exact le_eq (by rw [hq]) | rfl
              | cons c l =>
                rw [hq] at hR hd1
                have q1 : ((c :: l : Bys) == []) = false := rfl
                rw [sgn_cons] at hR
                have q2 := u8_eq c 40 (by decide)
                try simp (config := { maxSteps := 2000000 }) only [go_sem, reduceCtorEq, Nat.reduceAdd, Nat.reduceEqDiff, reduceIte, Nat.reduceLeDiff, Nat.reduceLT, Nat.reduceSub, ndsV_len, List.length_append, List.length_cons, List.length_nil, Nat.zero_add, toNat_s, ovI_len, hdd, q1, Bool.not_true, Bool.not_false, List.getD_cons_zero]
                all_goals (repeat (with_reducible refine sAnd ?_))
                refine cond_of (by rfl) trivial (fun g9 => ?_) (fun g9 => ?_)
                · have hc : (c == 40) = true := by rw [← g9]; exact q2.symm
                  rw [if_pos hc] at hR
                  have e2 : readRes s = { res := .tup [docV [], iv 1] } := by unfold readRes; rw [← hR]
                  rw [e2]
                  try simp (config := { maxSteps := 2000000 }) only [go_sem, reduceCtorEq, Nat.reduceAdd, Nat.reduceEqDiff, reduceIte, Nat.reduceLeDiff, Nat.reduceLT, Nat.reduceSub]
                  all_goals (repeat (with_reducible refine sAnd ?_))
                  exact pan_two (L := 116) rfl (by decide) (by decide) (by decide) rfl rfl rfl read_pan
                · have hc : (c == 40) = false := by rw [← g9]; exact q2.symm
                  rw [if_neg (by rw [hc]; simp)] at hR
                  try simp (config := { maxSteps := 2000000 }) only [go_sem, reduceCtorEq, Nat.reduceAdd, Nat.reduceEqDiff, reduceIte, Nat.reduceLeDiff, Nat.reduceLT, Nat.reduceSub]
                  all_goals (repeat (with_reducible refine sAnd ?_))
                  refine ⟨(f', d, op', c :: l), by simp only; omega, ⟨by simp only; omega, by simp only; omega, k3, k4, by simp only [List.length_append, List.length_cons, List.length_nil] at k5 ⊢; omega, hR⟩, ?_⟩
                  simp (config := { maxSteps := 2000000 }) only [go_sem, reduceCtorEq, Nat.reduceAdd, Nat.reduceEqDiff, reduceIte, Nat.reduceLeDiff, Nat.reduceLT, Nat.reduceSub, le_cons, le_nil, le_un, le_same]
                  all_goals (repeat' (first | exact trivial | exact le_int (by omega) | exact le_bool rfl | exact le_eq rfl | exact le_nlo | exact le_refl _ | refine And.intro ?_ ?_))
                  all_goals first | exact le_same | exact le_eq (by rw [hpop]) | exact le_eq (by rw [hq]) | rfl
            · rw [g3, if_neg (by simp)] at hR
              have e41 : signR t [41] = t := by unfold signR; rw [g3]; rfl
              try simp (config := { maxSteps := 2000000 }) only [go_sem, reduceCtorEq, Nat.reduceAdd, Nat.reduceEqDiff, reduceIte, Nat.reduceLeDiff, Nat.reduceLT, Nat.reduceSub]
              all_goals (repeat (with_reducible refine sAnd ?_))
              rw [e41]
              refine call_val (by repeat' constructor) (c_pen_has t [32]) ?_
              try simp (config := { maxSteps := 2000000 }) only [go_sem, reduceCtorEq, Nat.reduceAdd, Nat.reduceEqDiff, reduceIte, Nat.reduceLeDiff, Nat.reduceLT, Nat.reduceSub]
              all_goals (repeat (with_reducible refine sAnd ?_))
              refine cond_of (by rfl) trivial (fun g4 => ?_) (fun g4 => ?_)
              · rw [g4, if_pos rfl] at hR
                have hd1 := sign_drop g4
                have hN := c_pen_node hM (v) (signR t [32]) (by omega)
                cases h2 : nodeRd (v) (signR t [32]) with
                | none =>
                  rw [h2] at hR
                  have e3 : nodeRes (v) (signR t [32]) = { res := .pan bkV } := by unfold nodeRes; rw [h2]
                  rw [e3] at hN
                  have e2 : readRes s = { res := .tup [docV [], iv 1] } := by unfold readRes; rw [← hR]
                  rw [e2]
                  try simp (config := { maxSteps := 2000000 }) only [go_sem, reduceCtorEq, Nat.reduceAdd, Nat.reduceEqDiff, reduceIte, Nat.reduceLeDiff, Nat.reduceLT, Nat.reduceSub, ndsV_len, List.length_append, List.length_cons, List.length_nil, Nat.zero_add, toNat_s, ovI_len, ovI_last, List.drop_zero, List.take_succ_cons, List.take_zero, List.headD_cons, plainL, frzL_p, Nat.sub_zero, List.map_nil, List.map_cons, atV, OVal.cells, layR, get_nil, p_nil, upd_nil]
                  all_goals (repeat (with_reducible refine sAnd ?_))
                  intro b
                  try simp (config := { maxSteps := 2000000 }) only [go_sem, reduceCtorEq, Nat.reduceAdd, Nat.reduceEqDiff, reduceIte, Nat.reduceLeDiff, Nat.reduceLT, Nat.reduceSub, ↓ o_vlp, List.length_append, List.length_cons, List.length_nil, Nat.zero_add, toNat_s, ovI_len, ovI_last, List.drop_zero, List.take_succ_cons, List.take_zero, List.headD_cons, plainL, frzL_p, Nat.sub_zero, List.map_nil, List.map_cons, atV, OVal.cells, layR, get_nil, p_nil, upd_nil]
                  all_goals (repeat (with_reducible refine sAnd ?_))
                  refine call_pan (by repeat' constructor) hN ?_
                  try simp (config := { maxSteps := 2000000 }) only [go_sem, reduceCtorEq, Nat.reduceAdd, Nat.reduceEqDiff, reduceIte, Nat.reduceLeDiff, Nat.reduceLT, Nat.reduceSub]
                  all_goals (repeat (with_reducible refine sAnd ?_))
                  intro F' hag
                  exact pan_two (L := 116) (hag.1.trans rfl) (by decide) (by decide) (by decide) ((hag.2 2 (by decide)).trans rfl) ((hag.2 3 (by decide)).trans rfl) rfl read_pan
                | some yu =>
                  obtain ⟨y, u⟩ := yu
                  rw [h2] at hR
                  have e3 : nodeRes (v) (signR t [32]) = { res := .val (.agg (ndV y)), io := [bS u] } := by unfold nodeRes; rw [h2]
                  rw [e3] at hN
                  have hu := nodeT0_pos h2
                  have hne : (((d.length + 1 : Nat) : Int) == (d.length : Int)) = false := by rw [beq_eq_false_iff_ne]; omega
                  try simp (config := { maxSteps := 2000000 }) only [go_sem, reduceCtorEq, Nat.reduceAdd, Nat.reduceEqDiff, reduceIte, Nat.reduceLeDiff, Nat.reduceLT, Nat.reduceSub, ndsV_len, List.length_append, List.length_cons, List.length_nil, Nat.zero_add, toNat_s, ovI_len, ovI_last, List.drop_zero, List.take_succ_cons, List.take_zero, List.headD_cons, plainL, frzL_p, Nat.sub_zero, List.map_nil, List.map_cons, atV, OVal.cells, layR, get_nil, p_nil, upd_nil]
                  all_goals (repeat (with_reducible refine sAnd ?_))
                  intro b
                  try simp (config := { maxSteps := 2000000 }) only [go_sem, reduceCtorEq, Nat.reduceAdd, Nat.reduceEqDiff, reduceIte, Nat.reduceLeDiff, Nat.reduceLT, Nat.reduceSub, ↓ o_vlp, List.length_append, List.length_cons, List.length_nil, Nat.zero_add, toNat_s, ovI_len, ovI_last, List.drop_zero, List.take_succ_cons, List.take_zero, List.headD_cons, plainL, frzL_p, Nat.sub_zero, List.map_nil, List.map_cons, atV, OVal.cells, layR, get_nil, p_nil, upd_nil]
                  all_goals (repeat (with_reducible refine sAnd ?_))
                  refine call_val (by repeat' constructor) (hN) ?_
                  try simp (config := { maxSteps := 2000000 }) only [go_sem, reduceCtorEq, Nat.reduceAdd, Nat.reduceEqDiff, reduceIte, Nat.reduceLeDiff, Nat.reduceLT, Nat.reduceSub, ndsV_len, List.length_append, List.length_cons, List.length_nil, Nat.zero_add, hne]
                  all_goals (repeat (with_reducible refine sAnd ?_))
                  refine cond_of (by rfl) trivial (fun g9 => ?_) (fun g9 => ?_)
                  · simp at g9
                  · try simp (config := { maxSteps := 2000000 }) only [go_sem, reduceCtorEq, Nat.reduceAdd, Nat.reduceEqDiff, reduceIte, Nat.reduceLeDiff, Nat.reduceLT, Nat.reduceSub]
                    all_goals (repeat (with_reducible refine sAnd ?_))
                    refine ⟨(f', d ++ [y], op' ++ [v], u), by simp only; omega, ⟨by simp only; omega, by simp only; omega, by simp only [List.length_append, List.length_cons, List.length_nil]; omega, by simp only [List.length_append, List.length_cons, List.length_nil]; omega, by simp only [List.length_append, List.length_cons, List.length_nil] at k5 ⊢; omega, hR⟩, ?_⟩
                    simp (config := { maxSteps := 2000000 }) only [go_sem, reduceCtorEq, Nat.reduceAdd, Nat.reduceEqDiff, reduceIte, Nat.reduceLeDiff, Nat.reduceLT, Nat.reduceSub, le_cons, le_nil, le_un, le_same]
                    all_goals (repeat' (first | exact trivial | exact le_int (by omega) | exact le_bool rfl | exact le_eq rfl | exact le_nlo | exact le_refl _ | refine And.intro ?_ ?_))
                    all_goals first | exact le_same | exact le_eq (by simp only [ndsV_app, ovI_app]; rfl) | rfl
              · rw [g4, if_neg (by simp)] at hR
                have e2 : readRes s = { res := .tup [docV [], iv 1] } := by unfold readRes; rw [← hR]
                rw [e2]
                try simp (config := { maxSteps := 2000000 }) only [go_sem, reduceCtorEq, Nat.reduceAdd, Nat.reduceEqDiff, reduceIte, Nat.reduceLeDiff, Nat.reduceLT, Nat.reduceSub]
                all_goals (repeat (with_reducible refine sAnd ?_))
                exact pan_two (L := 116) rfl (by decide) (by decide) (by decide) rfl rfl rfl read_pan
    · have ht : t = [] := by simpa using h
      rw [if_pos ht] at hR
      cases op with
      | cons v op' =>
        rw [if_neg (by simp)] at hR
        have e2 : readRes s = { res := .tup [docV [], iv 1] } := by unfold readRes; rw [← hR]
        rw [e2]
        have hz : decide ((0 : Int) < ((op'.length + 1 : Nat) : Int)) = true := by rw [decide_eq_true_eq]; omega
        try simp (config := { maxSteps := 2000000 }) only [go_sem, reduceCtorEq, Nat.reduceAdd, Nat.reduceEqDiff, reduceIte, Nat.reduceLeDiff, Nat.reduceLT, Nat.reduceSub, ndsV_len, ovI_len, List.length_cons, hz]
        all_goals (repeat (with_reducible refine sAnd ?_))
        refine call_guard (T := false) (x := iv 0) (by first | rfl | (simp; done)) (fun h => by cases h) (fun h => by cases h) ?_
        try simp (config := { maxSteps := 2000000 }) only [go_sem, reduceCtorEq, Nat.reduceAdd, Nat.reduceEqDiff, reduceIte, Nat.reduceLeDiff, Nat.reduceLT, Nat.reduceSub]
        all_goals (repeat (with_reducible refine sAnd ?_))
        refine cond_of (by rfl) trivial (fun g9 => ?_) (fun g9 => ?_)
        · try simp (config := { maxSteps := 2000000 }) only [go_sem, reduceCtorEq, Nat.reduceAdd, Nat.reduceEqDiff, reduceIte, Nat.reduceLeDiff, Nat.reduceLT, Nat.reduceSub]
          all_goals (repeat (with_reducible refine sAnd ?_))
          exact pan_two (L := 116) rfl (by decide) (by decide) (by decide) rfl rfl rfl read_pan
        · simp at g9
      | nil =>
        have hz : decide ((0 : Int) < ((0 : Nat) : Int)) = false := rfl
        try simp (config := { maxSteps := 2000000 }) only [go_sem, reduceCtorEq, Nat.reduceAdd, Nat.reduceEqDiff, reduceIte, Nat.reduceLeDiff, Nat.reduceLT, Nat.reduceSub, ndsV_len, ovI_len, List.length_nil, hz]
        all_goals (repeat (with_reducible refine sAnd ?_))
        by_cases hc : checkDoc d = 0
        · rw [if_pos ⟨rfl, hc⟩] at hR
          have e2 : readRes s = { res := .tup [docV d, iv 0] } := by unfold readRes; rw [← hR]
          rw [e2]
          apply call_guard (h2 := fun _ => c_doc_Check d)
          · (simp (config := { maxSteps := 2000000 }) only [go_sem, reduceCtorEq, Nat.reduceAdd, Nat.reduceEqDiff, reduceIte, Nat.reduceLeDiff, Nat.reduceLT, Nat.reduceSub]; rfl)
          · intro h; repeat' (first | exact trivial | exact h | refine And.intro ?_ ?_)
          try simp (config := { maxSteps := 2000000 }) only [go_sem, reduceCtorEq, Nat.reduceAdd, Nat.reduceEqDiff, reduceIte, Nat.reduceLeDiff, Nat.reduceLT, Nat.reduceSub, hc]
          all_goals (repeat (with_reducible refine sAnd ?_))
          refine cond_of (by rfl) trivial (fun g9 => ?_) (fun g9 => ?_)
          · simp [hc] at g9
          · try simp (config := { maxSteps := 2000000 }) only [go_sem, reduceCtorEq, Nat.reduceAdd, Nat.reduceEqDiff, reduceIte, Nat.reduceLeDiff, Nat.reduceLT, Nat.reduceSub]
            all_goals (repeat (with_reducible refine sAnd ?_))
            exact ⟨⟨rs_cellB rfl rfl (.inl rfl), rs_cellB rfl rfl (.inl rfl), rfl⟩, fun cs h => by cases h⟩
        · rw [if_neg (fun h => hc h.2)] at hR
          have e2 : readRes s = { res := .tup [docV [], iv 1] } := by unfold readRes; rw [← hR]
          rw [e2]
          apply call_guard (h2 := fun _ => c_doc_Check d)
          · (simp (config := { maxSteps := 2000000 }) only [go_sem, reduceCtorEq, Nat.reduceAdd, Nat.reduceEqDiff, reduceIte, Nat.reduceLeDiff, Nat.reduceLT, Nat.reduceSub]; rfl)
          · intro h; repeat' (first | exact trivial | exact h | refine And.intro ?_ ?_)
          try simp (config := { maxSteps := 2000000 }) only [go_sem, reduceCtorEq, Nat.reduceAdd, Nat.reduceEqDiff, reduceIte, Nat.reduceLeDiff, Nat.reduceLT, Nat.reduceSub]
          all_goals (repeat (with_reducible refine sAnd ?_))
          refine cond_of (by rfl) trivial (fun g9 => ?_) (fun g9 => ?_)
          · try simp (config := { maxSteps := 2000000 }) only [go_sem, reduceCtorEq, Nat.reduceAdd, Nat.reduceEqDiff, reduceIte, Nat.reduceLeDiff, Nat.reduceLT, Nat.reduceSub]
            all_goals (repeat (with_reducible refine sAnd ?_))
            exact pan_two (L := 116) rfl (by decide) (by decide) (by decide) rfl rfl rfl read_pan
          · simp [hc] at g9
end Go.Hx
end
