/-
  Walks of functions of the program over an abstract layer, and the laws that they use: each contract says what the function computes, for every input that its conditions let by. No other condition.
-/
import Derived.Test.YtjnagiaooecklabGreatDoorG20
import Derived.Test.YtjnagiaooecklabGreatDoorG13
import Derived.Test.YtjnagiaooecklabGreatDoorG8
import Derived.Test.YtjnagiaooecklabGreatDoorG18
set_option linter.all false
section
/-
 Lists of paths as text; the strict reader: what it takes is what is printed. Plain Lean. No condition.
-/
set_option maxRecDepth 100000
set_option linter.unusedSimpArgs false
namespace Go.Hx
variable [Glob]
def zLc (k : Int) : Bys := if k = 4 then [61] else if k = 5 then [94, 61] else if k = 6 then [36, 61] else if k = 7 then [42, 61] else [126, 61]
def zQT (n : Int) : Bys := if n = 1 then [32] else if n = 2 then [32, 62, 32] else if n = 3 then [32, 43, 32] else if n = 4 then [32, 126, 32] else []
def zVV (k : Int) : Bys := if k = 9 then [58, 110, 116, 104, 40] else if k = 10 then [58, 108, 97, 115, 116, 40] else if k = 13 then [58, 110, 111, 116, 40] else if k = 14 then [58, 105, 115, 40] else [58, 104, 97, 115, 40]
mutual
def zVc : Ts → Bys
 | .mk k n v a b l =>
  if k = 1 then 46 :: n else if k = 2 then 35 :: n else if k = 3 then 91 :: (n ++ [93])
  else if 4 ≤ k ∧ k ≤ 8 then 91 :: (n ++ (zLc k ++ 34 :: (v ++ [34, 93])))
  else if k = 9 ∨ k = 10 then zVV k ++ (zBS a b ++ [41])
  else if k = 11 then [58, 101, 109, 112, 116, 121] else if k = 12 then [58, 114, 111, 111, 116]
  else zVV k ++ (zBH l true ++ [41])
def zCh : List Ts → Bys
 | [] => []
 | t :: r => zVc t ++ zCh r
def zOM : St → Bys
 | .mk tag l => (if tag = [] then [42] else tag) ++ zCh l
def zBv : List St → List Int → Bool → Bys
 | [], _, _ => []
 | x :: r, lk, true => zOM x ++ zBv r lk false
 | x :: r, lk, false => zQT (lk.headD 0) ++ zOM x ++ zBv r lk.tail false
def zP7 : Pt → Bys
 | .mk st lk => zBv st lk true
def zBH : List Pt → Bool → Bys
 | [], _ => []
 | p :: r, b => (if b then [] else [44, 32]) ++ zP7 p ++ zBH r false
end
abbrev zXd (l : List Pt) : Bys := zBH l true
theorem zDS (k : Int) (n v : Bys) (a b : Int) (l : List Pt) : zVc (.mk k n v a b l) = (if k = 1 then 46 :: n else if k = 2 then 35 :: n else if k = 3 then 91 :: (n ++ [93])
  else if 4 ≤ k ∧ k ≤ 8 then 91 :: (n ++ (zLc k ++ 34 :: (v ++ [34, 93])))
  else if k = 9 ∨ k = 10 then zVV k ++ (zBS a b ++ [41])
  else if k = 11 then [58, 101, 109, 112, 116, 121] else if k = 12 then [58, 114, 111, 111, 116]
  else zVV k ++ (zBH l true ++ [41])) := by rw [zVc]
def kd (s : Bys) : Int := if zAs s [61, 34] then 4 else if zAs s [94, 61, 34] then 5 else if zAs s [36, 61, 34] then 6 else if zAs s [42, 61, 34] then 7 else if zAs s [126, 61, 34] then 8 else 3
def atS (s : Bys) : Bys := zAw (nmR s) (zLc (kd (nmR s)) ++ [34])
def zXe (s : Bys) : Option (Ts × Bys) :=
 if kd (nmR s) = 3 then (if zAs (nmR s) [93] then some (.mk 3 (zE4 s) [] 0 0 [], zAw (nmR s) [93]) else none)
 else if (Lib.cut (atS s) [34]).2.2 && zAs (Lib.cut (atS s) [34]).2.1 [93] then some (.mk (kd (nmR s)) (zE4 s) (Lib.cut (atS s) [34]).1 0 0 [], zAw (Lib.cut (atS s) [34]).2.1 [93]) else none
def zFS (w : Bys) : Int := if w = [110, 116, 104] then 9 else if w = [108, 97, 115, 116] then 10 else if w = [110, 111, 116] then 13 else if w = [105, 115] then 14 else if w = [104, 97, 115] then 15 else 0
def zDm (s : Bys) : Int := if zAs s [32, 62, 32] then 2 else if zAs s [32, 43, 32] then 3 else if zAs s [32, 126, 32] then 4 else if zAs s [32] then 1 else 0
def zVd (g : Bys → Option (List Pt × Bys)) (k : Int) (s : Bys) : Option (Option Ts × Bys) :=
 if k = 0 then none
 else if zEb k then (match g s with
  | some (l, r) => if zAs r [41] then some (some (.mk k [] [] 0 0 l), zAw r [41]) else none
  | none => none)
 else if (Lib.cut s [41]).2.2 && zFj (Lib.cut s [41]).1 then some (some (.mk k [] [] (yB7 (Lib.cut s [41]).1) (yB8 (Lib.cut s [41]).1) []), (Lib.cut s [41]).2.1)
 else none
def zVW (g : Bys → Option (List Pt × Bys)) (s : Bys) : Option (Option Ts × Bys) :=
 if zE4 s = [101, 109, 112, 116, 121] then some (some (.mk 11 [] [] 0 0 []), nmR s)
 else if zE4 s = [114, 111, 111, 116] then some (some (.mk 12 [] [] 0 0 []), nmR s)
 else if zAs (nmR s) [40] = false then none
 else zVd g (zFS (zE4 s)) (zAw (nmR s) [40])
mutual
def zJz : Nat → Nat → Bys → Option (Option Ts × Bys)
 | 0, _, _ => none
 | f + 1, deep, s =>
  if zAs s [46] then some (some (.mk 1 (zE4 (zAw s [46])) [] 0 0 []), nmR (zAw s [46]))
  else if zAs s [35] then some (some (.mk 2 (zE4 (zAw s [35])) [] 0 0 []), nmR (zAw s [35]))
  else if zAs s [91] then (match zXe (zAw s [91]) with | some (t, r) => some (some t, r) | none => none)
  else if zAs s [58] = false then some (none, s)
  else zVW (zTU f (deep + 1)) (zAw s [58])
def zGl : Nat → Nat → Bys → List Ts → Option (List Ts × Bys)
 | 0, _, _, _ => none
 | f + 1, deep, s, l => match zJz f deep s with
  | some (some t, r) => zGl f deep r (l ++ [t])
  | some (none, r) => some (l, r)
  | none => none
def zS2 : Nat → Nat → Bys → Option (St × Bys)
 | 0, _, _ => none
 | f + 1, deep, s =>
  if zE4 s = [] then (if zAs (nmR s) [42] then (match zGl f deep (zAw (nmR s) [42]) [] with | some (l, r) => some (.mk [] l, r) | none => none) else none)
  else (match zGl f deep (nmR s) [] with | some (l, r) => some (.mk (zE4 s) l, r) | none => none)
def zN9 : Nat → Nat → Bys → List St → List Int → Option (Pt × Bys)
 | 0, _, _, _, _ => none
 | f + 1, deep, s, st, lk => if zDm s = 0 then some (.mk st lk, s) else (match zS2 f deep (zAw s (zQT (zDm s))) with
  | some (x, r) => zN9 f deep r (st ++ [x]) (lk ++ [zDm s])
  | none => none)
def zOa : Nat → Nat → Bys → List Pt → Option (List Pt × Bys)
 | 0, _, _, _ => none
 | f + 1, deep, s, l => match zS2 f deep s with
  | some (x, r) => (match zN9 f deep r [x] [] with
   | some (p, r2) => if zAs r2 [44, 32] then zOa f deep (zAw r2 [44, 32]) (l ++ [p]) else some (l ++ [p], r2)
   | none => none)
  | none => none
def zTU : Nat → Nat → Bys → Option (List Pt × Bys)
 | 0, _, _ => none
 | f + 1, deep, s => if 3 < deep then none else zOa f deep s []
end
def zVe (s : Bys) : Option (List Pt) := match zTU (4 * s.length + 16) 1 s with
 | some (l, r) => if r = [] ∧ zBt l = 0 then some l else none
 | none => none
theorem yF5 {s : Bys} (h : kd s ≠ 3) : s = zLc (kd s) ++ 34 :: zAw s (zLc (kd s) ++ [34]) ∧ 4 ≤ kd s ∧ kd s ≤ 8 := by
 unfold kd at h ⊢
 split
 ·rename_i h1; exact ⟨zEv h1, by decide, by decide⟩
 ·split
  ·rename_i h1; exact ⟨zEv h1, by decide, by decide⟩
  ·split
   ·rename_i h1; exact ⟨zEv h1, by decide, by decide⟩
   ·split
    ·rename_i h1; exact ⟨zEv h1, by decide, by decide⟩
    ·split
     ·rename_i h1; exact ⟨zEv h1, by decide, by decide⟩
     ·simp_all
theorem yAF {s : Bys} {c : UInt8} (h : (Lib.cut s [c]).2.2 = true) : s = (Lib.cut s [c]).1 ++ c :: (Lib.cut s [c]).2.1 := by
 unfold Lib.cut at h ⊢
 split at h
 ·rename_i h0
  rw [if_pos h0]
  rcases Lib.index_spec s [c] with ⟨e, _⟩ | ⟨i, e, hi, ho, _⟩
  ·rw [e] at h0; omega
  ·rw [e]
   simp only [Int.toNat_natCast]
   unfold Lib.occAt at ho
   have hd : ∃ l, s.drop i = c :: l := by
    match hq : s.drop i, ho with
    | [], ho => simp [List.isPrefixOf] at ho
    | a :: l, ho =>
     simp [List.isPrefixOf] at ho
     exact ⟨l, by rw [ho]⟩
   obtain ⟨l, hl⟩ := hd
   have h2 : s.drop (i + ([c] : Bys).length) = l := by
    have : s.drop (i + 1) = (s.drop i).drop 1 := by rw [List.drop_drop]
    show s.drop (i + 1) = l
    rw [this, hl]; rfl
   rw [h2, ← hl, List.take_append_drop]
 ·cases h
theorem yAG {s : Bys} {t : Ts} {r : Bys} (h : zXe s = some (t, r)) : 91 :: s = zVc t ++ r := by
 unfold zXe at h
 split at h
 ·split at h
  ·rename_i hk hs
   injection h with h
   injection h with h1 h2
   rw [← h1, ← h2]
   rw [zDS]
   rw [if_neg (by decide), if_neg (by decide), if_pos rfl]
   simp only [List.cons_append, List.append_assoc, List.nil_append]
   rw [← zN2 hs, ← zSV]
  ·cases h
 ·rename_i hk
  split at h
  ·rename_i hs
   simp only [Bool.and_eq_true] at hs
   injection h with h
   injection h with h1 h2
   obtain ⟨e1, e2, e3⟩ := yF5 hk
   have e4 := yAF hs.1
   rw [← h1, ← h2]
   rw [zDS]
   rw [if_neg (by omega), if_neg (by omega), if_neg (by omega), if_pos ⟨e2, e3⟩]
   simp only [List.cons_append, List.append_assoc, List.nil_append]
   rw [← zN2 hs.2, ← e4]
   unfold atS
   rw [← e1, ← zSV]
  ·cases h
theorem zQU {w : Bys} (h : zFS w ≠ 0) : zVV (zFS w) = 58 :: (w ++ [40]) ∧ (zFS w = 9 ∨ zFS w = 10 ∨ zFS w = 13 ∨ zFS w = 14 ∨ zFS w = 15) := by
 unfold zFS at h ⊢
 split
 ·rename_i e; subst e; exact ⟨rfl, .inl rfl⟩
 ·split
  ·rename_i e; subst e; exact ⟨rfl, .inr (.inl rfl)⟩
  ·split
   ·rename_i e; subst e; exact ⟨rfl, .inr (.inr (.inl rfl))⟩
   ·split
    ·rename_i e; subst e; exact ⟨rfl, .inr (.inr (.inr (.inl rfl)))⟩
    ·split
     ·rename_i e; subst e; exact ⟨rfl, .inr (.inr (.inr (.inr rfl)))⟩
     ·simp_all
theorem zZn {s : Bys} (h : zDm s ≠ 0) : s = zQT (zDm s) ++ zAw s (zQT (zDm s)) ∧ 1 ≤ zDm s ∧ zDm s ≤ 4 := by
 unfold zDm at h ⊢
 split
 ·rename_i h1; exact ⟨zEv h1, by decide, by decide⟩
 ·split
  ·rename_i h1; exact ⟨zEv h1, by decide, by decide⟩
  ·split
   ·rename_i h1; exact ⟨zEv h1, by decide, by decide⟩
   ·split
    ·rename_i h1; exact ⟨zEv h1, by decide, by decide⟩
    ·simp_all
theorem yAH {s : Bys} (h : zFj s = true) : zBS (yB7 s) (yB8 s) = s := by
 unfold zFj at h
 simp only [decide_eq_true_eq] at h
 exact h.2
theorem yAI {g : Bys → Option (List Pt × Bys)} (hg : ∀ s l r, g s = some (l, r) → s = zBH l true ++ r) {k : Int} {s : Bys} {o : Option Ts} {r : Bys} (hk : k = 9 ∨ k = 10 ∨ k = 13 ∨ k = 14 ∨ k = 15) (h : zVd g k s = some (o, r)) : (∀ t, o = some t → zVV k ++ s = zVc t ++ r) ∧ o ≠ none := by
 unfold zVd at h
 rw [if_neg (by omega)] at h
 split at h
 ·rename_i hl
  have hk2 : k = 13 ∨ k = 14 ∨ k = 15 := by
   unfold zEb at hl
   simp only [decide_eq_true_eq] at hl
   omega
  split at h
  ·rename_i l' r' hL
   split at h
   ·rename_i hc
    injection h with h; injection h with h1 h2
    refine ⟨fun t ht => ?_, by rw [← h1]; simp⟩
    rw [← h1] at ht
    injection ht with ht
    have e3 := hg _ _ _ hL
    rw [← ht, ← h2, zDS]
    rw [if_neg (by omega), if_neg (by omega), if_neg (by omega), if_neg (by omega), if_neg (by omega), if_neg (by omega), if_neg (by omega)]
    simp only [List.append_assoc, List.cons_append, List.nil_append]
    rw [← zN2 hc, ← e3]
   ·cases h
  ·cases h
 ·rename_i hl
  split at h
  ·rename_i hc
   simp only [Bool.and_eq_true] at hc
   have hk2 : k = 9 ∨ k = 10 := by
    unfold zEb at hl
    simp only [decide_eq_true_eq] at hl
    omega
   injection h with h; injection h with h1 h2
   refine ⟨fun t ht => ?_, by rw [← h1]; simp⟩
   rw [← h1] at ht
   injection ht with ht
   rw [← ht, ← h2, zDS]
   rw [if_neg (by omega), if_neg (by omega), if_neg (by omega), if_neg (by omega), if_pos hk2, yAH hc.2]
   simp only [List.append_assoc, List.cons_append, List.nil_append]
   rw [← yAF hc.1]
  ·cases h
theorem zVf {g : Bys → Option (List Pt × Bys)} (hg : ∀ s l r, g s = some (l, r) → s = zBH l true ++ r) {s : Bys} {o : Option Ts} {r : Bys} (h : zVW g s = some (o, r)) : (∀ t, o = some t → 58 :: s = zVc t ++ r) ∧ o ≠ none := by
 unfold zVW at h
 split at h
 ·rename_i hw
  injection h with h; injection h with h1 h2
  refine ⟨fun t ht => ?_, by rw [← h1]; simp⟩
  rw [← h1] at ht
  injection ht with ht
  rw [← ht, ← h2]
  have e1 := zSV s
  rw [hw] at e1
  conv => lhs; rw [e1]
  rfl
 ·split at h
  ·rename_i hw
   injection h with h; injection h with h1 h2
   refine ⟨fun t ht => ?_, by rw [← h1]; simp⟩
   rw [← h1] at ht
   injection ht with ht
   rw [← ht, ← h2]
   have e1 := zSV s
   rw [hw] at e1
   conv => lhs; rw [e1]
   rfl
  ·split at h
   ·cases h
   ·rename_i hp
    have hp : zAs (nmR s) [40] = true := by simpa using hp
    by_cases hk : zFS (zE4 s) = 0
    ·rw [hk] at h
     simp [zVd] at h
    ·obtain ⟨k1, k2⟩ := zQU hk
     obtain ⟨a, b⟩ := yAI hg k2 h
     refine ⟨fun t ht => ?_, b⟩
     rw [← a t ht, k1]
     simp only [List.cons_append, List.append_assoc, List.nil_append]
     rw [← zN2 hp, ← zSV]
theorem zFT : ∀ f : Nat,
  (∀ deep s t r, zJz f deep s = some (some t, r) → s = zVc t ++ r) ∧
  (∀ deep s r, zJz f deep s = some (none, r) → r = s) ∧
  (∀ deep s l l' r, zGl f deep s l = some (l', r) → ∃ m, l' = l ++ m ∧ s = zCh m ++ r) ∧
  (∀ deep s x r, zS2 f deep s = some (x, r) → s = zOM x ++ r) ∧
  (∀ deep s st lk p r, zN9 f deep s st lk = some (p, r) → ∃ st' lk', p = .mk (st ++ st') (lk ++ lk') ∧ s = zBv st' lk' false ++ r) ∧
  (∀ deep s l l' r, zOa f deep s l = some (l', r) → ∃ p m, l' = l ++ p :: m ∧ s = zP7 p ++ zBH m false ++ r) ∧
  (∀ deep s l r, zTU f deep s = some (l, r) → s = zBH l true ++ r)
 | 0 => by
  refine ⟨?_, ?_, ?_, ?_, ?_, ?_, ?_⟩ <;> intros <;> rename_i h <;> simp [zJz, zGl, zS2, zN9, zOa, zTU] at h
 | f + 1 => by
  obtain ⟨i1, i2, i3, i4, i5, i6, i7⟩ := zFT f
  refine ⟨?_, ?_, ?_, ?_, ?_, ?_, ?_⟩
  ·intro deep s t r h
   rw [zJz] at h
   split at h
   ·rename_i hs
    injection h with h; injection h with h1 h2; injection h1 with h1
    rw [← h1, ← h2]
    rw [zDS]
    rw [if_pos rfl, List.cons_append, ← zSV]
    exact zN2 hs
   ·split at h
    ·rename_i hs
     injection h with h; injection h with h1 h2; injection h1 with h1
     rw [← h1, ← h2]
     rw [zDS]
     rw [if_neg (by decide), if_pos rfl, List.cons_append, ← zSV]
     exact zN2 hs
    ·split at h
     ·rename_i hs
      split at h
      ·rename_i t' r' ha
       injection h with h; injection h with h1 h2; injection h1 with h1
       rw [← h1, ← h2, ← yAG ha]
       exact zN2 hs
      ·cases h
     ·split at h
      ·injection h with h; injection h with h1 h2; cases h1
      ·rename_i hs
       have hs : zAs s [58] = true := by simpa using hs
       rw [zN2 hs]
       exact (zVf (fun s l r => i7 _ s l r) h).1 t rfl
  ·intro deep s r h
   rw [zJz] at h
   split at h
   ·injection h with h; injection h with h1 h2; cases h1
   ·split at h
    ·injection h with h; injection h with h1 h2; cases h1
    ·split at h
     ·split at h
      ·injection h with h; injection h with h1 h2; cases h1
      ·cases h
     ·split at h
      ·injection h with h; injection h with h1 h2; exact h2.symm
      ·exact ((zVf (fun s l r => i7 _ s l r) h).2 rfl).elim
  ·intro deep s l l' r h
   simp only [zGl] at h
   split at h
   ·rename_i t r' ht
    obtain ⟨m, e1, e2⟩ := i3 _ _ _ _ _ h
    refine ⟨t :: m, by rw [e1]; simp, ?_⟩
    simp only [zCh, List.append_assoc]
    rw [← e2]
    exact i1 _ _ _ _ ht
   ·rename_i r' ht
    injection h with h; injection h with h1 h2
    refine ⟨[], by simp [h1], ?_⟩
    rw [← h2, i2 _ _ _ ht]; rfl
   ·cases h
  ·intro deep s x r h
   simp only [zS2] at h
   split at h
   ·rename_i hn
    split at h
    ·rename_i hs
     split at h
     ·rename_i l r' ht
      injection h with h; injection h with h1 h2
      obtain ⟨m, e1, e2⟩ := i3 _ _ _ _ _ ht
      rw [List.nil_append] at e1
      rw [← h1, ← h2]
      simp only [zOM, if_true, List.append_assoc]
      rw [e1, ← e2]
      have e3 := zSV s
      rw [hn, List.nil_append] at e3
      conv => lhs; rw [e3]
      exact zN2 hs
     ·cases h
    ·cases h
   ·rename_i hn
    split at h
    ·rename_i l r' ht
     injection h with h; injection h with h1 h2
     obtain ⟨m, e1, e2⟩ := i3 _ _ _ _ _ ht
     rw [List.nil_append] at e1
     rw [← h1, ← h2]
     simp only [zOM, List.append_assoc]
     rw [if_neg hn, e1, ← e2]
     exact zSV s
    ·cases h
  ·intro deep s st lk p r h
   simp only [zN9] at h
   split at h
   ·injection h with h; injection h with h1 h2
    exact ⟨[], [], by simp [h1], by rw [← h2]; rfl⟩
   ·rename_i hl
    split at h
    ·rename_i x r' hx
     obtain ⟨st', lk', e1, e2⟩ := i5 _ _ _ _ _ _ h
     refine ⟨x :: st', zDm s :: lk', by rw [e1]; simp, ?_⟩
     simp only [zBv, List.headD_cons, List.tail_cons, List.append_assoc]
     rw [← e2, ← i4 _ _ _ _ hx]
     exact (zZn hl).1
    ·cases h
  ·intro deep s l l' r h
   simp only [zOa] at h
   split at h
   ·rename_i x r1 hx
    split at h
    ·rename_i p r2 hp
     obtain ⟨st', lk', e1, e2⟩ := i5 _ _ _ _ _ _ hp
     have e3 : s = zP7 p ++ r2 := by
      rw [e1]
      simp only [List.cons_append, List.nil_append, zP7, zBv, List.append_assoc]
      rw [← e2]
      exact i4 _ _ _ _ hx
     split at h
     ·rename_i hc
      obtain ⟨p', m, e4, e5⟩ := i6 _ _ _ _ _ h
      refine ⟨p, p' :: m, by rw [e4]; simp, ?_⟩
      simp only [zBH, List.append_assoc, Bool.false_eq_true, if_false]
      rw [List.append_assoc] at e5
      rw [← e5]
      have := zEv hc
      rw [← this]
      exact e3
     ·injection h with h; injection h with h1 h2
      exact ⟨p, [], h1.symm, by rw [← h2]; simpa [zBH] using e3⟩
    ·cases h
   ·cases h
  ·intro deep s l r h
   simp only [zTU] at h
   split at h
   ·cases h
   ·obtain ⟨p, m, e1, e2⟩ := i6 _ _ _ _ _ h
    rw [List.nil_append] at e1
    rw [e1]
    simp only [zBH, if_true, List.nil_append, List.append_assoc]
    rw [List.append_assoc] at e2
    exact e2
end Go.Hx
end

section
/-
 Lists of paths as text: the strict reader takes the text of a right list. Plain Lean. No condition.
-/
set_option maxRecDepth 100000
set_option linter.unusedSimpArgs false
namespace Go.Hx
variable [Glob]
def pB (c : UInt8) : Bool := c == 41
def pL (c : UInt8) : Bool := c == 44 || pB c
def pE (c : UInt8) : Bool := c == 32 || pL c
def pT (c : UInt8) : Bool := c == 46 || c == 35 || c == 91 || c == 58 || pE c
theorem yHT {c : UInt8} (h : pB c = true) : pL c = true := by simp [pL, h]
theorem yHG {c : UInt8} (h : pL c = true) : pE c = true := by simp [pE, h]
theorem yHU {c : UInt8} (h : pE c = true) : pT c = true := by simp [pT, h]
theorem yEi {c : UInt8} (h : pT c = true) : nameCh c = false := by
 simp only [pT, pE, pL, pB, Bool.or_eq_true, beq_iff_eq] at h
 rcases h with (((rfl | rfl) | rfl) | rfl) | rfl | rfl | rfl <;> rfl
theorem zS3 {n r : Bys} (hn : n.all nameCh = true) (hr : ∀ c l, r = c :: l → nameCh c = false) : zE4 (n ++ r) = n ∧ nmR (n ++ r) = r := yAt hn hr
theorem yF7 {n r : Bys} (hn : n.all nameCh = true) (hr : Hd pT r) : zE4 (n ++ r) = n ∧ nmR (n ++ r) = r := yAt hn fun c l e => yEi (hr c l e)
theorem yAJ {c : UInt8} : ∀ {v : Bys} (r : Bys), (∀ x ∈ v, x ≠ c) → Lib.index (v ++ c :: r) [c] = v.length
 | [], r, _ => by simp [Lib.index, List.isPrefixOf]
 | x :: v, r, h => by
  have hc := h x List.mem_cons_self
  have ih := yAJ (c := c) (v := v) r (fun y hy => h y (List.mem_cons_of_mem _ hy))
  have h1 : ([c] : Bys).isPrefixOf (x :: (v ++ c :: r)) = false := by simp [List.isPrefixOf, Ne.symm hc]
  simp only [List.cons_append, Lib.index, h1, Bool.false_eq_true, if_false, ih, List.length_cons]
  rw [if_neg (by simp)]
  rfl
theorem zX8 {c : UInt8} {v : Bys} (r : Bys) (h : ∀ x ∈ v, x ≠ c) : Lib.cut (v ++ c :: r) [c] = (v, r, true) := by
 unfold Lib.cut
 rw [yAJ r h, if_pos (by omega)]
 simp
theorem yAK {c : UInt8} (hd : zS0 c = false) (hm : c ≠ 45) (a : Int) : ∀ x ∈ Lib.itoa a, x ≠ c := by
 intro x hx
 have hdd : ∀ u : Nat, ∀ x ∈ Lib.decDigits u, x ≠ c := by
  rintro u x hx rfl
  have := yAC u _ hx
  rw [hd] at this; cases this
 by_cases h : a < 0
 ·rw [yB9 h] at hx
  rcases List.mem_cons.1 hx with rfl | hx
  ·exact Ne.symm hm
  ·have e : Lib.itoa (-a) = Lib.decDigits (-a).toNat := by
    unfold Lib.itoa
    rw [if_neg (by omega)]
   rw [e] at hx
   exact hdd _ _ hx
 ·have e : Lib.itoa a = Lib.decDigits a.toNat := by
   unfold Lib.itoa
   rw [if_neg h]
  rw [e] at hx
  exact hdd _ _ hx
theorem yF8 (a b : Int) : ∀ x ∈ zBS a b, x ≠ 41 := by
 intro x hx
 unfold zBS at hx
 simp only [List.mem_append, List.mem_singleton] at hx
 rcases hx with (hx | rfl) | hx | hx
 ·exact yAK rfl (by decide) a x hx
 ·decide
 ·split at hx
  ·rw [List.mem_singleton] at hx; subst hx; decide
  ·cases hx
 ·exact yAK rfl (by decide) b x hx
theorem zOb {k : Int} (h : 4 ≤ k ∧ k ≤ 8) : k = 4 ∨ k = 5 ∨ k = 6 ∨ k = 7 ∨ k = 8 := by omega
theorem yHp {k : Int} (h : 4 ≤ k ∧ k ≤ 8) (r : Bys) : kd (zLc k ++ 34 :: r) = k ∧ zAw (zLc k ++ 34 :: r) (zLc k ++ [34]) = r ∧ (∀ c l, zLc k ++ 34 :: r = c :: l → nameCh c = false) := by
 have e : ∀ k, zLc k ++ 34 :: r = (zLc k ++ [34]) ++ r := fun k => by simp
 refine ⟨?_, by rw [e]; exact (zCI _ _).2, ?_⟩
 ·rcases zOb h with rfl | rfl | rfl | rfl | rfl
  ·unfold kd
   rw [if_pos (by rw [e]; exact (zCI _ _).1)]
  ·unfold kd
   rw [if_neg (by show ¬ zAs (94 :: _) (61 :: _) = true; rw [zBI rfl]; simp), if_pos (by rw [e]; exact (zCI _ _).1)]
  ·unfold kd
   rw [if_neg (by show ¬ zAs (36 :: _) (61 :: _) = true; rw [zBI rfl]; simp), if_neg (by show ¬ zAs (36 :: _) (94 :: _) = true; rw [zBI rfl]; simp), if_pos (by rw [e]; exact (zCI _ _).1)]
  ·unfold kd
   rw [if_neg (by show ¬ zAs (42 :: _) (61 :: _) = true; rw [zBI rfl]; simp), if_neg (by show ¬ zAs (42 :: _) (94 :: _) = true; rw [zBI rfl]; simp), if_neg (by show ¬ zAs (42 :: _) (36 :: _) = true; rw [zBI rfl]; simp), if_pos (by rw [e]; exact (zCI _ _).1)]
  ·unfold kd
   rw [if_neg (by show ¬ zAs (126 :: _) (61 :: _) = true; rw [zBI rfl]; simp), if_neg (by show ¬ zAs (126 :: _) (94 :: _) = true; rw [zBI rfl]; simp), if_neg (by show ¬ zAs (126 :: _) (36 :: _) = true; rw [zBI rfl]; simp), if_neg (by show ¬ zAs (126 :: _) (42 :: _) = true; rw [zBI rfl]; simp), if_pos (by rw [e]; exact (zCI _ _).1)]
 ·intro c l q
  rcases zOb h with rfl | rfl | rfl | rfl | rfl <;> (injection q with q _; rw [← q]; rfl)
theorem yEj {c : UInt8} {r : Bys} (h : c = 93) : kd (c :: r) = 3 := by
 subst h
 unfold kd
 rw [if_neg (by rw [zBI rfl]; simp), if_neg (by rw [zBI rfl]; simp), if_neg (by rw [zBI rfl]; simp), if_neg (by rw [zBI rfl]; simp), if_neg (by rw [zBI rfl]; simp)]
theorem zZo {n r : Bys} (hn : zBN n = true) : zXe (n ++ 93 :: r) = some (.mk 3 n [] 0 0 [], r) := by
 have h := zS3 (r := 93 :: r) (zGD hn) (fun c l e => by injection e with e _; rw [← e]; rfl)
 unfold zXe
 rw [h.1, h.2, if_pos (yEj rfl), (zA5 _ _).1, (zA5 _ _).2, if_pos rfl]
theorem yAL {k : Int} {n v r : Bys} (hk : 4 ≤ k ∧ k ≤ 8) (hn : zBN n = true) (hv : zCN v = true) : zXe (n ++ (zLc k ++ 34 :: (v ++ 34 :: 93 :: r))) = some (.mk k n v 0 0 [], r) := by
 obtain ⟨k1, k2, k3⟩ := yHp hk (v ++ 34 :: 93 :: r)
 have h := zS3 (r := zLc k ++ 34 :: (v ++ 34 :: 93 :: r)) (zGD hn) k3
 unfold zXe atS
 rw [h.1, h.2, k1, if_neg (by omega), k2, zX8 _ (yFY hv)]
 simp only
 rw [(zA5 _ _).1, (zA5 _ _).2]
 rfl
theorem yAM {w r : Bys} (hw : w.all nameCh = true) : zE4 (w ++ 40 :: r) = w ∧ nmR (w ++ 40 :: r) = 40 :: r := zS3 hw fun c l e => by injection e with e _; rw [← e]; rfl
theorem zVg {g : Bys → Option (List Pt × Bys)} {k : Int} (hk : k = 9 ∨ k = 10 ∨ k = 13 ∨ k = 14 ∨ k = 15) (s : Bys) : ∃ w, zVV k = 58 :: (w ++ [40]) ∧ zVW g (w ++ 40 :: s) = zVd g k s := by
 have key : ∀ w : Bys, w.all nameCh = true → w ≠ [101, 109, 112, 116, 121] → w ≠ [114, 111, 111, 116] → zFS w = k → zVW g (w ++ 40 :: s) = zVd g k s := by
  intro w h1 h2 h3 h4
  unfold zVW
  rw [(yAM h1).1, (yAM h1).2, if_neg h2, if_neg h3, (zA5 _ _).1, (zA5 _ _).2, if_neg (by simp), h4]
 rcases hk with rfl | rfl | rfl | rfl | rfl
 ·exact ⟨[110, 116, 104], rfl, key _ rfl (by decide) (by decide) rfl⟩
 ·exact ⟨[108, 97, 115, 116], rfl, key _ rfl (by decide) (by decide) rfl⟩
 ·exact ⟨[110, 111, 116], rfl, key _ rfl (by decide) (by decide) rfl⟩
 ·exact ⟨[105, 115], rfl, key _ rfl (by decide) (by decide) rfl⟩
 ·exact ⟨[104, 97, 115], rfl, key _ rfl (by decide) (by decide) rfl⟩
theorem zHO (t : Ts) : ∃ c l, zVc t = c :: l ∧ (c = 46 ∨ c = 35 ∨ c = 91 ∨ c = 58) := by
 obtain ⟨k, n, v, a, b, l⟩ := t
 have ho : ∀ k, ∃ l, zVV k = 58 :: l := by
  intro k
  unfold zVV
  split
  ·exact ⟨_, rfl⟩
  ·split
   ·exact ⟨_, rfl⟩
   ·split
    ·exact ⟨_, rfl⟩
    ·split <;> exact ⟨_, rfl⟩
 obtain ⟨q, hq⟩ := ho k
 rw [zDS]
 split
 ·exact ⟨_, _, rfl, .inl rfl⟩
 ·split
  ·exact ⟨_, _, rfl, .inr (.inl rfl)⟩
  ·split
   ·exact ⟨_, _, rfl, .inr (.inr (.inl rfl))⟩
   ·split
    ·exact ⟨_, _, rfl, .inr (.inr (.inl rfl))⟩
    ·split
     ·rw [hq]; exact ⟨_, _, rfl, .inr (.inr (.inr rfl))⟩
     ·split
      ·exact ⟨_, _, rfl, .inr (.inr (.inr rfl))⟩
      ·split
       ·exact ⟨_, _, rfl, .inr (.inr (.inr rfl))⟩
       ·rw [hq]; exact ⟨_, _, rfl, .inr (.inr (.inr rfl))⟩
theorem yAN (m : List Ts) {r : Bys} (hr : Hd pE r) : Hd pT (zCh m ++ r) := by
 cases m with
 | nil => exact hr.mono fun _ => yHU
 | cons t m =>
  obtain ⟨c, l, e, hc⟩ := zHO t
  simp only [zCh, e, List.cons_append]
  refine Hd.cons ?_
  rcases hc with rfl | rfl | rfl | rfl <;> rfl
theorem yCd {x : St} {d : Nat} (h : GS x d) (r : Bys) : ∃ c l, zOM x ++ r = c :: l ∧ (c = 42 ∨ nameCh c = true) := by
 obtain ⟨tag, l⟩ := x
 obtain ⟨_, h2, _⟩ := h.parts
 simp only [zOM]
 rcases h2 with rfl | h2
 ·exact ⟨_, _, rfl, .inl rfl⟩
 ·have hne := zN3 h2
  rw [if_neg hne]
  cases tag with
  | nil => exact (hne rfl).elim
  | cons c tag =>
   have := zGD h2
   simp only [List.all_cons, Bool.and_eq_true] at this
   exact ⟨_, _, rfl, .inr this.1⟩
theorem yCe {n : Int} (h : 1 ≤ n ∧ n ≤ 4) {x : St} {d : Nat} (hx : GS x d) (r : Bys) : zDm (zQT n ++ (zOM x ++ r)) = n ∧ zAw (zQT n ++ (zOM x ++ r)) (zQT n) = zOM x ++ r := by
 refine ⟨?_, (zCI _ _).2⟩
 obtain ⟨c, l, e, hc⟩ := yCd hx r
 have h4 : n = 1 ∨ n = 2 ∨ n = 3 ∨ n = 4 := by omega
 rcases h4 with rfl | rfl | rfl | rfl
 ·rw [e]
  have hne : ∀ q : UInt8, nameCh q = false → q ≠ 42 → (c == q) = false := by
   intro q h1 h2
   rw [beq_eq_false_iff_ne]
   rintro rfl
   rcases hc with rfl | hc
   ·exact h2 rfl
   ·rw [h1] at hc; cases hc
  unfold zDm
  show (if zAs (32 :: c :: l) (32 :: 62 :: [32]) = true then _ else _) = _
  rw [if_neg (by rw [zFi (hne 62 rfl (by decide))]; simp)]
  show (if zAs (32 :: c :: l) (32 :: 43 :: [32]) = true then _ else _) = _
  rw [if_neg (by rw [zFi (hne 43 rfl (by decide))]; simp)]
  show (if zAs (32 :: c :: l) (32 :: 126 :: [32]) = true then _ else _) = _
  rw [if_neg (by rw [zFi (hne 126 rfl (by decide))]; simp)]
  show (if zAs (32 :: c :: l) [32] = true then _ else _) = _
  rw [(zA5 _ _).1]; rfl
 ·unfold zDm
  exact if_pos (zCI [32, 62, 32] _).1
 ·unfold zDm
  rw [if_neg (by show ¬ zAs (32 :: 43 :: _) (32 :: 62 :: _) = true; rw [zFi rfl]; simp)]
  exact if_pos (zCI [32, 43, 32] _).1
 ·unfold zDm
  rw [if_neg (by show ¬ zAs (32 :: 126 :: _) (32 :: 62 :: _) = true; rw [zFi rfl]; simp), if_neg (by show ¬ zAs (32 :: 126 :: _) (32 :: 43 :: _) = true; rw [zFi rfl]; simp)]
  exact if_pos (zCI [32, 126, 32] _).1
theorem zZp {r : Bys} (h : Hd pL r) : zDm r = 0 := by
 unfold zDm
 rw [if_neg (by rw [zN4 h rfl]; simp), if_neg (by rw [zN4 h rfl]; simp), if_neg (by rw [zN4 h rfl]; simp), if_neg (by rw [zN4 h rfl]; simp)]
end Go.Hx
end

section
/-
 Lists of paths as text: the strict reader takes the text of a right list. Plain Lean. No condition.
-/
set_option maxRecDepth 100000
set_option linter.unusedSimpArgs false
namespace Go.Hx
variable [Glob]
theorem yEk (k : Int) : 5 ≤ (zVV k).length + 1 := by
 unfold zVV
 split
 ·decide
 ·split
  ·decide
  ·split
   ·decide
   ·split <;> decide
theorem yF9 {k : Int} (h : 1 ≤ k ∧ k ≤ 15) : k = 1 ∨ k = 2 ∨ k = 3 ∨ (4 ≤ k ∧ k ≤ 8) ∨ (k = 9 ∨ k = 10) ∨ k = 11 ∨ k = 12 ∨ (k = 13 ∨ k = 14 ∨ k = 15) := by omega
theorem yCf {g : Bys → Option (List Pt × Bys)} {k : Int} (hk : k = 9 ∨ k = 10) {a b : Int} (h : zI7 a b = 0) (r : Bys) : zVd g k (zBS a b ++ 41 :: r) = some (some (.mk k [] [] a b []), r) := by
 have hl : zEb k = false := by rcases hk with rfl | rfl <;> rfl
 unfold zVd
 rw [if_neg (by omega), hl, if_neg (by simp), zX8 _ (yF8 a b)]
 simp only
 rw [zXc h, (zS1 h).1, (zS1 h).2]
 rfl
theorem yAO {g : Bys → Option (List Pt × Bys)} {k : Int} (hk : k = 13 ∨ k = 14 ∨ k = 15) {s r : Bys} {l : List Pt} (h : g s = some (l, 41 :: r)) : zVd g k s = some (some (.mk k [] [] 0 0 l), r) := by
 have hl : zEb k = true := by rcases hk with rfl | rfl | rfl <;> rfl
 unfold zVd
 rw [if_neg (by omega), hl, if_pos rfl, h]
 simp only
 rw [(zA5 _ _).1, (zA5 _ _).2, if_pos rfl]
theorem tstP_colon {f d : Nat} {s : Bys} : zJz (f + 1) d (58 :: s) = zVW (zTU f (d + 1)) s := by
 rw [zJz, if_neg (by rw [zCH]; decide), if_neg (by rw [zCH]; decide), if_neg (by rw [zCH]; decide), if_neg (by rw [(zA5 _ _).1]; simp), (zA5 _ _).2]
theorem zVh {g : Bys → Option (List Pt × Bys)} {r : Bys} (hr : Hd pT r) : zVW g ([101, 109, 112, 116, 121] ++ r) = some (some (.mk 11 [] [] 0 0 []), r) ∧ zVW g ([114, 111, 111, 116] ++ r) = some (some (.mk 12 [] [] 0 0 []), r) := by
 have h1 := yF7 (n := [101, 109, 112, 116, 121]) rfl hr
 have h2 := yF7 (n := [114, 111, 111, 116]) rfl hr
 constructor
 ·unfold zVW; rw [h1.1, h1.2, if_pos rfl]
 ·unfold zVW; rw [h2.1, h2.2, if_neg (by decide), if_pos rfl]
theorem zOc : ∀ f : Nat,
  (∀ t d r, GT t d → 4 * (zVc t).length ≤ f → Hd pT r → zJz f d (zVc t ++ r) = some (some t, r)) ∧
  (∀ d r, 1 ≤ f → Hd pE r → zJz f d r = some (none, r)) ∧
  (∀ m l d r, GTs m d → 4 * (zCh m).length + 2 ≤ f → Hd pE r → zGl f d (zCh m ++ r) l = some (l ++ m, r)) ∧
  (∀ x d r, GS x d → 4 * (zOM x).length + 3 ≤ f → Hd pE r → zS2 f d (zOM x ++ r) = some (x, r)) ∧
  (∀ st' lk' st lk d r, GSs st' d → lk'.length = st'.length → (∀ n ∈ lk', 1 ≤ n ∧ n ≤ 4) → 4 * (zBv st' lk' false).length + 1 ≤ f → Hd pL r → zN9 f d (zBv st' lk' false ++ r) st lk = some (.mk (st ++ st') (lk ++ lk'), r)) ∧
  (∀ p m l d r, GPs (p :: m) d → 4 * (zP7 p ++ zBH m false).length + 4 ≤ f → Hd pB r → zOa f d (zP7 p ++ zBH m false ++ r) l = some (l ++ p :: m, r)) ∧
  (∀ l d r, GL l d → 4 * (zBH l true).length + 5 ≤ f → Hd pB r → zTU f d (zBH l true ++ r) = some (l, r))
 | 0 => by
  refine ⟨?_, ?_, ?_, ?_, ?_, ?_, ?_⟩
  ·intro t d r _ h _
   obtain ⟨c, l, e, _⟩ := zHO t
   rw [e, List.length_cons] at h
   omega
  all_goals intros; omega
 | f + 1 => by
  obtain ⟨i1, i2, i3, i4, i5, i6, i7⟩ := zOc f
  refine ⟨?_, ?_, ?_, ?_, ?_, ?_, ?_⟩
  ·intro t d r hg hf hr
   obtain ⟨k, n, v, a, b, l⟩ := t
   obtain ⟨q1, q2, q3, q4, q5, q6⟩ := hg.parts
   rw [zDS] at hf ⊢
   rcases yF9 q1 with rfl | rfl | rfl | hk | hk | rfl | rfl | hk
   ·rw [if_pos (by decide)] at q2
    rw [if_neg (by decide)] at q3 q4 q6
    obtain ⟨rfl, rfl⟩ := q4
    subst q3 q6
    have hn := yF7 (zGD q2) hr
    rw [if_pos rfl, List.cons_append, zJz, if_pos (zA5 _ _).1, (zA5 _ _).2, hn.1, hn.2]
   ·rw [if_pos (by decide)] at q2
    rw [if_neg (by decide)] at q3 q4 q6
    obtain ⟨rfl, rfl⟩ := q4
    subst q3 q6
    have hn := yF7 (zGD q2) hr
    rw [if_neg (by decide), if_pos rfl, List.cons_append, zJz, if_neg (by rw [zCH]; decide), if_pos (zA5 _ _).1, (zA5 _ _).2, hn.1, hn.2]
   ·rw [if_pos (by decide)] at q2
    rw [if_neg (by decide)] at q3 q4 q6
    obtain ⟨rfl, rfl⟩ := q4
    subst q3 q6
    rw [if_neg (by decide), if_neg (by decide), if_pos rfl, List.cons_append, List.append_assoc, zJz, if_neg (by rw [zCH]; decide), if_neg (by rw [zCH]; decide), if_pos (zA5 _ _).1, (zA5 _ _).2]
    show (match zXe (n ++ 93 :: r) with | some (t, r) => some (some t, r) | none => none) = _
    rw [zZo q2]
   ·rw [if_pos (by omega)] at q2
    rw [if_pos hk] at q3
    rw [if_neg (by omega)] at q4 q6
    obtain ⟨rfl, rfl⟩ := q4
    subst q6
    rw [if_neg (by omega), if_neg (by omega), if_neg (by omega), if_pos hk]
    simp only [List.cons_append, List.append_assoc, List.nil_append]
    rw [zJz, if_neg (by rw [zCH]; decide), if_neg (by rw [zCH]; decide), if_pos (zA5 _ _).1, (zA5 _ _).2, yAL hk q2 q3]
   ·rw [if_neg (by omega)] at q2 q3 q6
    subst q2 q3 q6
    rw [if_neg (by omega), if_neg (by omega), if_neg (by omega), if_neg (by omega), if_pos hk]
    obtain ⟨w, e1, e2⟩ := zVg (g := zTU f (d + 1)) (k := k) (by omega) (zBS a b ++ 41 :: r)
    rw [e1]
    simp only [List.cons_append, List.append_assoc, List.nil_append]
    rw [tstP_colon, e2, yCf hk q5]
   ·rw [if_neg (by decide)] at q2 q3 q4 q6
    obtain ⟨rfl, rfl⟩ := q4
    subst q2 q3 q6
    exact tstP_colon.trans (zVh hr).1
   ·rw [if_neg (by decide)] at q2 q3 q4 q6
    obtain ⟨rfl, rfl⟩ := q4
    subst q2 q3 q6
    exact tstP_colon.trans (zVh hr).2
   ·rw [if_neg (by omega)] at q2 q3 q4
    rw [if_pos (by omega)] at q6
    obtain ⟨rfl, rfl⟩ := q4
    subst q2 q3
    rw [if_neg (by omega), if_neg (by omega), if_neg (by omega), if_neg (by omega), if_neg (by omega), if_neg (by omega), if_neg (by omega)] at hf ⊢
    obtain ⟨w, e1, e2⟩ := zVg (g := zTU f (d + 1)) (k := k) (by omega) (zBH l true ++ 41 :: r)
    have ho := yEk k
    have h7 := i7 l (d + 1) (41 :: r) q6 (by simp only [List.length_append, List.length_cons, List.length_nil] at hf; omega) (Hd.cons rfl)
    rw [e1]
    simp only [List.cons_append, List.append_assoc, List.nil_append]
    rw [tstP_colon, e2, yAO hk h7]
  ·intro d r _ hr
   rw [zJz, if_neg (by rw [zMe hr rfl]; simp), if_neg (by rw [zMe hr rfl]; simp), if_neg (by rw [zMe hr rfl]; simp), if_pos (zMe hr rfl)]
  ·intro m l d r hg hf hr
   cases m with
   | nil =>
    simp only [zGl]
    rw [show zCh [] ++ r = r from rfl, i2 d r (by simp [zCh] at hf; omega) hr]
    simp
   | cons t m =>
    obtain ⟨g1, g2⟩ := hg.cons
    simp only [zCh, List.length_append] at hf
    obtain ⟨c, q, e, _⟩ := zHO t
    have hl : 1 ≤ (zVc t).length := by rw [e]; simp
    simp only [zCh, zGl, List.append_assoc]
    rw [i1 t d _ g1 (by omega) (yAN m hr)]
    simp only
    rw [i3 m _ d r g2 (by omega) hr]
    simp
  ·intro x d r hg hf hr
   obtain ⟨tag, l⟩ := x
   obtain ⟨g1, g2, g3⟩ := hg.parts
   simp only [zOM, List.length_append] at hf
   simp only [zOM, zS2, List.append_assoc]
   rcases g2 with rfl | g2
   ·simp only [if_true] at hf ⊢
    have hn : zE4 ([42] ++ (zCh l ++ r)) = [] ∧ nmR ([42] ++ (zCh l ++ r)) = 42 :: (zCh l ++ r) := zS3 (n := []) rfl (fun c l e => by injection e with e _; rw [← e]; rfl)
    rw [hn.1, hn.2, (zA5 _ _).1, (zA5 _ _).2]
    simp only [if_true]
    rw [i3 l [] d r g3 (by simp only [List.length_cons, List.length_nil] at hf; omega) hr]
    simp
   ·rw [if_neg (zN3 g2)] at hf
    simp only [if_neg (zN3 g2)]
    have hn := yF7 (zGD g2) (yAN l hr)
    rw [hn.1, hn.2, if_neg (zN3 g2), i3 l [] d r g3 (by have : 1 ≤ tag.length := List.length_pos_iff.2 (zN3 g2); omega) hr]
    simp
  ·intro st' lk' st lk d r hg hlen hlk hf hr
   cases st' with
   | nil =>
    have : lk' = [] := List.eq_nil_of_length_eq_zero (by simpa using hlen)
    subst this
    simp only [zBv, List.nil_append, zN9]
    rw [zZp hr, if_pos rfl]
    simp
   | cons x st' =>
    obtain ⟨g1, g2⟩ := hg.cons
    cases lk' with
    | nil => simp at hlen
    | cons n lk' =>
     have hn := hlk n List.mem_cons_self
     simp only [zBv, List.headD_cons, List.tail_cons, List.length_append] at hf
     simp only [zBv, List.headD_cons, List.tail_cons, List.append_assoc, zN9]
     obtain ⟨e1, e2⟩ := yCe hn g1 (zBv st' lk' false ++ r)
     have hl : 1 ≤ (zQT n).length := by
      have : n = 1 ∨ n = 2 ∨ n = 3 ∨ n = 4 := by omega
      rcases this with rfl | rfl | rfl | rfl <;> decide
     have hh : Hd pE (zBv st' lk' false ++ r) := by
      cases st' with
      | nil => exact hr.mono fun _ => yHG
      | cons y st' =>
       cases lk' with
       | nil => simp at hlen
       | cons n' lk' =>
        have hn' := hlk n' (List.mem_cons_of_mem _ List.mem_cons_self)
        have : ∃ q, zQT n' = 32 :: q := by
         have : n' = 1 ∨ n' = 2 ∨ n' = 3 ∨ n' = 4 := by omega
         rcases this with rfl | rfl | rfl | rfl <;> exact ⟨_, rfl⟩
        obtain ⟨q, hq⟩ := this
        simp only [zBv, List.headD_cons, hq, List.cons_append]
        exact Hd.cons rfl
     rw [e1, if_neg (by omega), e2, i4 x d _ g1 (by omega) hh]
     simp only
     rw [i5 st' lk' _ _ d r g2 (by simpa using hlen) (fun y hy => hlk y (List.mem_cons_of_mem _ hy)) (by omega) hr]
     simp
  ·intro p m l d r hg hf hr
   obtain ⟨g1, g2⟩ := hg.cons
   obtain ⟨st, lk⟩ := p
   obtain ⟨p1, p2, p3, p4, p5⟩ := g1.parts
   cases st with
   | nil => simp at p1
   | cons x st =>
    obtain ⟨s1, s2⟩ := p5.cons
    simp only [zP7, zBv, List.length_append] at hf
    simp only [zP7, zBv, zOa, List.append_assoc]
    have hh : Hd pL (zBH m false ++ r) := by
     cases m with
     | nil => exact hr.mono fun _ => yHT
     | cons y m => simp only [zBH, Bool.false_eq_true, if_false, List.cons_append]; exact Hd.cons rfl
    have hh2 : Hd pE (zBv st lk false ++ (zBH m false ++ r)) := by
     cases st with
     | nil => exact hh.mono fun _ => yHG
     | cons y st =>
      cases lk with
      | nil => simp at p3
      | cons n lk =>
       have hn := p4 n List.mem_cons_self
       have : ∃ q, zQT n = 32 :: q := by
        have : n = 1 ∨ n = 2 ∨ n = 3 ∨ n = 4 := by omega
        rcases this with rfl | rfl | rfl | rfl <;> exact ⟨_, rfl⟩
       obtain ⟨q, hq⟩ := this
       simp only [zBv, List.headD_cons, hq, List.cons_append]
       exact Hd.cons rfl
    rw [i4 x d _ s1 (by omega) hh2]
    simp only
    rw [i5 st lk [x] [] d _ s2 (by simpa using p3) p4 (by omega) hh]
    simp only [List.cons_append, List.nil_append]
    cases m with
    | nil =>
     rw [show zBH [] false ++ r = r from rfl]
     exact if_neg (by rw [zN4 hr rfl]; simp)
    | cons y m =>
     have e : zBH (y :: m) false ++ r = [44, 32] ++ (zP7 y ++ zBH m false ++ r) := by simp only [zBH, Bool.false_eq_true, if_false, List.append_assoc]
     simp only [zBH, Bool.false_eq_true, if_false, List.length_append, List.length_cons, List.length_nil] at hf
     rw [e, (zCI _ _).1, (zCI _ _).2, if_pos rfl, i6 y m _ d r g2 (by simp only [List.length_append]; omega) hr]
     simp
  ·intro l d r hg hf hr
   obtain ⟨h1, h2, h3, h4⟩ := hg
   simp only [zTU]
   rw [if_neg (by omega)]
   cases l with
   | nil => simp at h2
   | cons p m =>
    simp only [zBH, if_true, List.nil_append, List.length_append] at hf ⊢
    have := i6 p m [] d r h4 (by simp only [List.length_append]; omega) hr
    rw [this]
    simp
theorem zZq {l : List Pt} (h : zBt l = 0) : zVe (zXd l) = some l := by
 have := (zOc (4 * (zXd l).length + 16)).2.2.2.2.2.2 l 1 [] (yEh h) (by show 4 * (zBH l true).length + 5 ≤ 4 * (zBH l true).length + 16; omega) Hd.nil
 rw [List.append_nil] at this
 unfold zVe
 rw [this]
 simp [h]
end Go.Hx
end

section
/-
 Lists of paths as text: how long a right list's text may be. Plain Lean. No condition.
-/
set_option maxRecDepth 100000
set_option linter.unusedSimpArgs false
namespace Go.Hx
variable [Glob]
theorem zX9 {a b : Int} (h : zI7 a b = 0) : (zBS a b).length ≤ 44 := by
 unfold zI7 at h
 split at h
 ·rename_i h'
  simp only [zLa, Bool.and_eq_true, decide_eq_true_eq] at h'
  have h1 := zGH (a := a) (by omega)
  have h2 := zGH (a := b) (by omega)
  unfold zBS
  simp only [List.length_append, List.length_cons, List.length_nil]
  split <;> simp <;> omega
 ·cases h
theorem zYa (k : Int) : (zVV k).length ≤ 6 := by
 unfold zVV
 repeat' split
 all_goals simp
theorem zYb (k : Int) : (zLc k).length ≤ 2 := by
 unfold zLc
 repeat' split
 all_goals simp
theorem yCg (k : Int) : (zQT k).length ≤ 3 := by
 unfold zQT
 repeat' split
 all_goals simp
theorem zI8 {n : Bys} (h : zBN n = true) : n.length ≤ 12 := by
 simp only [zBN, Bool.and_eq_true, decide_eq_true_eq] at h
 omega
theorem zOd {n : Bys} (h : zCN n = true) : n.length ≤ 16 := by
 simp only [zCN, Bool.and_eq_true, decide_eq_true_eq] at h
 omega
def tB (d : Nat) : Nat := if d = 1 then 1229192 else if d = 2 then 8192 else 52
theorem yHq (d : Nat) : 52 ≤ tB d := by
 unfold tB
 split
 ·omega
 ·split <;> omega
theorem yEl {d : Nat} (h1 : 1 ≤ d) (h : d + 1 ≤ 3) : 7 + 5 * (5 * (15 + 6 * tB (d + 1)) + 2) ≤ tB d := by
 have : d = 1 ∨ d = 2 := by omega
 rcases this with rfl | rfl <;> decide
mutual
theorem yHV : ∀ (t : Ts) (d : Nat), 1 ≤ d → GT t d → (zVc t).length ≤ tB d
 | .mk k n v a b l, d, hd, h => by
  obtain ⟨h1, h2, h3, h4, h5, h6⟩ := h.parts
  have hb := yHq d
  have ho := zYa k
  have hs := zYb k
  have hnt := zX9 h5
  have hl : 13 ≤ k → (zBH l true).length + 7 ≤ tB d := fun hk => by
   rw [if_pos hk] at h6
   have := yCh l true (d + 1) (by omega) h6.2.2.2
   have h7 := yEl hd h6.1
   have h8 : l.length * (5 * (15 + 6 * tB (d + 1)) + 2) ≤ 5 * (5 * (15 + 6 * tB (d + 1)) + 2) := Nat.mul_le_mul_right _ h6.2.2.1
   omega
  have hn : n.length ≤ 12 := by
   split at h2
   ·exact zI8 h2
   ·rw [h2]; simp
  have hv : v.length ≤ 16 := by
   split at h3
   ·exact zOd h3
   ·rw [h3]; simp
  rw [zDS]
  split
  ·simp only [List.length_cons]; omega
  ·split
   ·simp only [List.length_cons]; omega
   ·split
    ·simp only [List.length_cons, List.length_append, List.length_nil]; omega
    ·split
     ·simp only [List.length_cons, List.length_append, List.length_nil]; omega
     ·split
      ·simp only [List.length_cons, List.length_append, List.length_nil]; omega
      ·split
       ·simp only [List.length_cons, List.length_nil]; omega
       ·split
        ·simp only [List.length_cons, List.length_nil]; omega
        ·have := hl (by omega)
         simp only [List.length_cons, List.length_append, List.length_nil]; omega
theorem yGa : ∀ (l : List Ts) (d : Nat), 1 ≤ d → GTs l d → (zCh l).length ≤ l.length * tB d
 | [], d, _, _ => by simp [zCh]
 | t :: l, d, hd, h => by
  have h1 := yHV t d hd h.cons.1
  have h2 := yGa l d hd h.cons.2
  simp only [zCh, List.length_append, List.length_cons, Nat.add_mul, Nat.one_mul]
  omega
theorem yHH : ∀ (x : St) (d : Nat), 1 ≤ d → GS x d → (zOM x).length ≤ 12 + 6 * tB d
 | .mk tag l, d, hd, h => by
  obtain ⟨h1, h2, h3⟩ := h.parts
  have h4 := yGa l d hd h3
  have h5 : l.length * tB d ≤ 6 * tB d := Nat.mul_le_mul_right _ h1
  have h6 : (if tag = [] then ([42] : Bys) else tag).length ≤ 12 := by
   split
   ·simp
   ·exact zI8 (h2.resolve_left (by assumption))
  simp only [zOM, List.length_append]
  omega
theorem yEm : ∀ (l : List St) (lk : List Int) (b : Bool) (d : Nat), 1 ≤ d → GSs l d → (zBv l lk b).length ≤ l.length * (15 + 6 * tB d)
 | [], lk, b, d, _, _ => by simp [zBv]
 | x :: r, lk, true, d, hd, h => by
  have h1 := yHH x d hd h.cons.1
  have h2 := yEm r lk false d hd h.cons.2
  simp only [zBv, List.length_append, List.length_cons, Nat.add_mul, Nat.one_mul]
  omega
 | x :: r, lk, false, d, hd, h => by
  have h1 := yHH x d hd h.cons.1
  have h2 := yEm r lk.tail false d hd h.cons.2
  have h3 := yCg (lk.headD 0)
  simp only [zBv, List.length_append, List.length_cons, Nat.add_mul, Nat.one_mul]
  omega
theorem yHr : ∀ (p : Pt) (d : Nat), 1 ≤ d → GP p d → (zP7 p).length ≤ 5 * (15 + 6 * tB d)
 | .mk st lk, d, hd, h => by
  obtain ⟨h1, h2, h3, h4, h5⟩ := h.parts
  have h6 := yEm st lk true d hd h5
  have h7 : st.length * (15 + 6 * tB d) ≤ 5 * (15 + 6 * tB d) := Nat.mul_le_mul_right _ h2
  simp only [zP7]
  omega
theorem yCh : ∀ (l : List Pt) (b : Bool) (d : Nat), 1 ≤ d → GPs l d → (zBH l b).length ≤ l.length * (5 * (15 + 6 * tB d) + 2)
 | [], b, d, _, _ => by simp [zBH]
 | p :: r, b, d, hd, h => by
  have h1 := yHr p d hd h.cons.1
  have h2 := yCh r false d hd h.cons.2
  have h3 : (if b then ([] : Bys) else [44, 32]).length ≤ 2 := by cases b <;> simp
  simp only [zBH, List.length_append, List.length_cons]
  rw [Nat.succ_mul]
  omega
end
theorem yHI {l : List Pt} {d : Nat} (hd : 1 ≤ d) (h : GL l d) : (zXd l).length ≤ 184379185 := by
 have h1 := yCh l true d hd h.2.2.2
 have h2 : l.length * (5 * (15 + 6 * tB d) + 2) ≤ 5 * (5 * (15 + 6 * tB d) + 2) := Nat.mul_le_mul_right _ h.2.2.1
 have h3 : tB d ≤ 1229192 := by
  unfold tB
  split
  ·omega
  ·split <;> omega
 have h4 : (zXd l).length = (zBH l true).length := rfl
 omega
end Go.Hx
end

section
/-
 Lists of paths as text: the lenient reader takes the text of a right list too. Plain Lean. No condition.
-/
set_option maxRecDepth 100000
set_option linter.unusedSimpArgs false
namespace Go.Hx
variable [Glob]
end Go.Hx
end

section
set_option maxRecDepth 100000
set_option linter.unusedSimpArgs false
namespace Go.Hx
open Go.Proofs Go.RowKit
variable [Glob]
attribute [local go_sem] zAz zAx zAy zAq ndV zAu zAp
attribute [local go_sem] reduceCtorEq Nat.reduceAdd Nat.reduceEqDiff reduceIte Nat.reduceLeDiff Nat.reduceLT Nat.reduceSub
abbrev xbV : Value := .iface zBG (.agg #[])
theorem zBy (s t : Bys) : Contract Tryz.prog zAT [.io [bS s], .val (sv t)] { res := .val (bv (zAs s t)), io := [bS (zAw s t)] } := by
  refine zNF (base := 21) ⟨Nat.le_of_ble_eq_true rfl, Nat.le_of_ble_eq_true rfl, Nat.le_of_ble_eq_true rfl, ⟨rfl, rfl⟩⟩ (fun hfit => ?_)
  unfold F0 zDA
  simp (maxSteps := 2000000) only [zAN, List.set_cons_succ, List.set_cons_zero, List.map_cons, List.map_nil, zAM, zAb, ioOf, List.length_cons, List.length_nil, Nat.reduceAdd, Nat.reduceSub, List.replicate, List.cons_append, List.nil_append]
  try simp (maxSteps := 2000000) only [go_sem]
  repeat with_reducible refine zAd ?_
  refine zAR (by repeat' constructor) (zG5 s t) ?_
  try simp (maxSteps := 2000000) only [go_sem]
  repeat with_reducible refine zAd ?_
  exact zMQ rfl trivial (.inl rfl) rfl rfl
theorem zEw (s t : Bys) (h : zAs s t = true) : Contract Tryz.prog zBc [.io [bS s], .val (sv t)] { res := .tup [], io := [bS (zAw s t)] } := by
  refine zF0 (base := 10) ⟨Nat.le_of_ble_eq_true rfl, Nat.le_of_ble_eq_true rfl, Nat.le_of_ble_eq_true rfl, ⟨rfl, rfl⟩⟩ (fun hfit => ?_)
  unfold F0 zCe
  simp (maxSteps := 2000000) only [zAN, List.set_cons_succ, List.set_cons_zero, List.map_cons, List.map_nil, zAM, zAb, ioOf, List.length_cons, List.length_nil, Nat.reduceAdd, Nat.reduceSub, List.replicate, List.cons_append, List.nil_append]
  try simp (maxSteps := 2000000) only [go_sem]
  repeat with_reducible refine zAd ?_
  refine zAh (by repeat' constructor) (zBy s t) ?_
  try simp (maxSteps := 2000000) only [go_sem]
  repeat with_reducible refine zAd ?_
  refine zAa (by rfl) trivial (fun h2 => ?_) (fun h2 => ?_)
  · rw [h] at h2; simp at h2
  · try simp (maxSteps := 2000000) only [go_sem]
    repeat with_reducible refine zAd ?_
    exact ⟨by first | rfl | trivial | (simp only [zCQ]; trivial), fun cs hcs => by injection hcs with hcs; subst hcs; rfl⟩
theorem zCi (s t : Bys) (h : zAs s t = false) : Contract Tryz.prog zBc [.io [bS s], .val (sv t)] { res := .pan xbV } := by
  refine zF0 (base := 10) ⟨Nat.le_of_ble_eq_true rfl, Nat.le_of_ble_eq_true rfl, Nat.le_of_ble_eq_true rfl, ⟨rfl, rfl⟩⟩ (fun hfit => ?_)
  unfold F0 zCe
  simp (maxSteps := 2000000) only [zAN, List.set_cons_succ, List.set_cons_zero, List.map_cons, List.map_nil, zAM, zAb, ioOf, List.length_cons, List.length_nil, Nat.reduceAdd, Nat.reduceSub, List.replicate, List.cons_append, List.nil_append]
  try simp (maxSteps := 2000000) only [go_sem]
  repeat with_reducible refine zAd ?_
  refine zAh (by repeat' constructor) (zBy s t) ?_
  try simp (maxSteps := 2000000) only [go_sem]
  repeat with_reducible refine zAd ?_
  refine zAa (by rfl) trivial (fun h2 => ?_) (fun h2 => ?_)
  · try simp (maxSteps := 2000000) only [go_sem]
    repeat with_reducible refine zAd ?_
    exact ⟨_, rfl, rfl⟩
  · rw [h] at h2; simp at h2
theorem zCB (s : Bys) : Contract Tryz.prog zAU [.io [bS s]] { res := .val (sv (zE4 s)), io := [bS (nmR s)] } := by
  have hm0 : maxLen = 9223372036854775807 := rfl
  refine zG4 (base := 33) ⟨Nat.le_of_ble_eq_true rfl, Nat.le_of_ble_eq_true rfl, Nat.le_of_ble_eq_true rfl, ⟨rfl, rfl⟩⟩ (fun hfit => ?_)
  unfold F0 zB8
  simp (maxSteps := 2000000) only [zAN, List.set_cons_succ, List.set_cons_zero, List.map_cons, List.map_nil, zAM, zAb, ioOf, List.length_cons, List.length_nil, Nat.reduceAdd, Nat.reduceSub, List.replicate, List.cons_append, List.nil_append]
  try simp (maxSteps := 2000000) only [go_sem]
  repeat with_reducible refine zAd ?_
  have hm := zMd hfit.1.1
  have hl := yFW s nameCh
  have hx1 : ((s.length : Int) - ((s.dropWhile nameCh).length : Int)).toNat = (s.takeWhile nameCh).length := by omega
  obtain ⟨t1, t2⟩ := yAq s nameCh
  refine zAh (by repeat' constructor) (zHL s _ (by decide) (by decide)) ?_
  try simp (maxSteps := 2000000) only [go_sem, yFX, hx1, List.take_length, t1, t2, Int.toNat_zero, List.drop_zero]
  repeat with_reducible refine zAd ?_
  exact zMQ rfl trivial (.inl rfl) rfl rfl
theorem zOe (hM : yAr) (s t : Bys) (hs : s.length ≤ 268435456) (h : (Lib.cut s t).2.2 = true) : Contract Tryz.prog zBW [.io [bS s], .val (sv t)] { res := .val (sv (Lib.cut s t).1), io := [bS (Lib.cut s t).2.1] } := by
  refine zF1 (base := 27) ⟨Nat.le_of_ble_eq_true rfl, Nat.le_of_ble_eq_true rfl, Nat.le_of_ble_eq_true rfl, ⟨rfl, rfl⟩⟩ (fun hfit => ?_)
  unfold F0 zCf
  simp (maxSteps := 2000000) only [zAN, List.set_cons_succ, List.set_cons_zero, List.map_cons, List.map_nil, zAM, zAb, ioOf, List.length_cons, List.length_nil, Nat.reduceAdd, Nat.reduceSub, List.replicate, List.cons_append, List.nil_append]
  try simp (maxSteps := 2000000) only [go_sem]
  repeat with_reducible refine zAd ?_
  refine zAR (by repeat' constructor) (zGT hM s t (by omega)) ?_
  try simp (maxSteps := 2000000) only [go_sem]
  repeat with_reducible refine zAd ?_
  refine zAa (by rfl) trivial (fun h2 => ?_) (fun h2 => ?_)
  · rw [h] at h2; simp at h2
  · try simp (maxSteps := 2000000) only [go_sem]
    repeat with_reducible refine zAd ?_
    exact zMQ rfl trivial (.inl rfl) rfl rfl
theorem zGm (hM : yAr) (s t : Bys) (hs : s.length ≤ 268435456) (h : (Lib.cut s t).2.2 = false) : Contract Tryz.prog zBW [.io [bS s], .val (sv t)] { res := .pan xbV } := by
  refine zF1 (base := 27) ⟨Nat.le_of_ble_eq_true rfl, Nat.le_of_ble_eq_true rfl, Nat.le_of_ble_eq_true rfl, ⟨rfl, rfl⟩⟩ (fun hfit => ?_)
  unfold F0 zCf
  simp (maxSteps := 2000000) only [zAN, List.set_cons_succ, List.set_cons_zero, List.map_cons, List.map_nil, zAM, zAb, ioOf, List.length_cons, List.length_nil, Nat.reduceAdd, Nat.reduceSub, List.replicate, List.cons_append, List.nil_append]
  try simp (maxSteps := 2000000) only [go_sem]
  repeat with_reducible refine zAd ?_
  refine zAR (by repeat' constructor) (zGT hM s t (by omega)) ?_
  try simp (maxSteps := 2000000) only [go_sem]
  repeat with_reducible refine zAd ?_
  refine zAa (by rfl) trivial (fun h2 => ?_) (fun h2 => ?_)
  · try simp (maxSteps := 2000000) only [go_sem]
    repeat with_reducible refine zAd ?_
    exact ⟨_, rfl, rfl⟩
  · rw [h] at h2; simp at h2
theorem yAP (k : Int) (h : 4 ≤ k ∧ k ≤ 8) : Contract Tryz.prog zER [.val (iv k)] { res := .val (sv (zLc k)) } := by
  have h5 : k = 4 ∨ k = 5 ∨ k = 6 ∨ k = 7 ∨ k = 8 := by omega
  rcases h5 with rfl | rfl | rfl | rfl | rfl <;>
    (refine zUA (base := 0) ⟨Nat.le_of_ble_eq_true rfl, Nat.le_of_ble_eq_true rfl, Nat.le_of_ble_eq_true rfl, rfl⟩ (fun hfit => ?_)
     unfold F0 zFN
     simp (maxSteps := 2000000) only [zAN, List.set_cons_succ, List.set_cons_zero, List.map_cons, List.map_nil, zAM, zAb, ioOf, List.length_cons, List.length_nil, Nat.reduceAdd, Nat.reduceSub, List.replicate, List.cons_append, List.nil_append]
     try simp (maxSteps := 2000000) only [go_sem]
     repeat with_reducible refine zAd ?_
     exact zAl rfl trivial (.inl rfl))
theorem zHP : Contract Tryz.prog zEa [] { res := .val (.agg [bS [], bS [32], bS [32, 62, 32], bS [32, 43, 32], bS [32, 126, 32]]) } := by
  refine zSp (base := 0) ⟨Nat.le_of_ble_eq_true rfl, Nat.le_of_ble_eq_true rfl, Nat.le_of_ble_eq_true rfl, rfl⟩ (fun hfit => ?_)
  unfold F0 zET
  simp (maxSteps := 2000000) only [zAN, List.set_cons_succ, List.set_cons_zero, List.map_cons, List.map_nil, zAM, zAb, ioOf, List.length_cons, List.length_nil, Nat.reduceAdd, Nat.reduceSub, List.replicate, List.cons_append, List.nil_append]
  try simp (maxSteps := 2000000) only [go_sem]
  repeat with_reducible refine zAd ?_
  exact zGe rfl rfl rfl
theorem zGn (k : Int) (h : k = 9 ∨ k = 10 ∨ k = 13 ∨ k = 14 ∨ k = 15) : Contract Tryz.prog zDz [.val (iv k)] { res := .val (sv (zVV k)) } := by
  rcases h with rfl | rfl | rfl | rfl | rfl
  · refine zCA (base := 0) ⟨Nat.le_of_ble_eq_true rfl, Nat.le_of_ble_eq_true rfl, Nat.le_of_ble_eq_true rfl, rfl⟩ (fun hfit => ?_)
    unfold F0 zBB
    simp (maxSteps := 2000000) only [zAN, List.set_cons_succ, List.set_cons_zero, List.map_cons, List.map_nil, zAM, zAb, ioOf, List.length_cons, List.length_nil, Nat.reduceAdd, Nat.reduceSub, List.replicate, List.cons_append, List.nil_append]
    try simp (maxSteps := 2000000) only [go_sem]
    repeat with_reducible refine zAd ?_
    refine zAa (by rfl) trivial (fun h1 => ?_) (fun h1 => ?_)
    · try simp (maxSteps := 2000000) only [go_sem]
      repeat with_reducible refine zAd ?_
      exact zAl rfl trivial (.inl rfl)
    · cases h1
  · refine zCA (base := 0) ⟨Nat.le_of_ble_eq_true rfl, Nat.le_of_ble_eq_true rfl, Nat.le_of_ble_eq_true rfl, rfl⟩ (fun hfit => ?_)
    unfold F0 zBB
    simp (maxSteps := 2000000) only [zAN, List.set_cons_succ, List.set_cons_zero, List.map_cons, List.map_nil, zAM, zAb, ioOf, List.length_cons, List.length_nil, Nat.reduceAdd, Nat.reduceSub, List.replicate, List.cons_append, List.nil_append]
    try simp (maxSteps := 2000000) only [go_sem]
    repeat with_reducible refine zAd ?_
    refine zAa (by rfl) trivial (fun h1 => ?_) (fun h1 => ?_)
    · cases h1
    · try simp (maxSteps := 2000000) only [go_sem]
      repeat with_reducible refine zAd ?_
      refine zAa (by rfl) trivial (fun h2 => ?_) (fun h2 => ?_)
      · try simp (maxSteps := 2000000) only [go_sem]
        repeat with_reducible refine zAd ?_
        exact zAl rfl trivial (.inl rfl)
      · cases h2
  · refine zCA (base := 0) ⟨Nat.le_of_ble_eq_true rfl, Nat.le_of_ble_eq_true rfl, Nat.le_of_ble_eq_true rfl, rfl⟩ (fun hfit => ?_)
    unfold F0 zBB
    simp (maxSteps := 2000000) only [zAN, List.set_cons_succ, List.set_cons_zero, List.map_cons, List.map_nil, zAM, zAb, ioOf, List.length_cons, List.length_nil, Nat.reduceAdd, Nat.reduceSub, List.replicate, List.cons_append, List.nil_append]
    try simp (maxSteps := 2000000) only [go_sem]
    repeat with_reducible refine zAd ?_
    refine zAa (by rfl) trivial (fun h1 => ?_) (fun h1 => ?_)
    · cases h1
    · try simp (maxSteps := 2000000) only [go_sem]
      repeat with_reducible refine zAd ?_
      refine zAa (by rfl) trivial (fun h2 => ?_) (fun h2 => ?_)
      · cases h2
      · try simp (maxSteps := 2000000) only [go_sem]
        repeat with_reducible refine zAd ?_
        refine zAa (by rfl) trivial (fun h3 => ?_) (fun h3 => ?_)
        · try simp (maxSteps := 2000000) only [go_sem]
          repeat with_reducible refine zAd ?_
          exact zAl rfl trivial (.inl rfl)
        · cases h3
  · refine zCA (base := 0) ⟨Nat.le_of_ble_eq_true rfl, Nat.le_of_ble_eq_true rfl, Nat.le_of_ble_eq_true rfl, rfl⟩ (fun hfit => ?_)
    unfold F0 zBB
    simp (maxSteps := 2000000) only [zAN, List.set_cons_succ, List.set_cons_zero, List.map_cons, List.map_nil, zAM, zAb, ioOf, List.length_cons, List.length_nil, Nat.reduceAdd, Nat.reduceSub, List.replicate, List.cons_append, List.nil_append]
    try simp (maxSteps := 2000000) only [go_sem]
    repeat with_reducible refine zAd ?_
    refine zAa (by rfl) trivial (fun h1 => ?_) (fun h1 => ?_)
    · cases h1
    · try simp (maxSteps := 2000000) only [go_sem]
      repeat with_reducible refine zAd ?_
      refine zAa (by rfl) trivial (fun h2 => ?_) (fun h2 => ?_)
      · cases h2
      · try simp (maxSteps := 2000000) only [go_sem]
        repeat with_reducible refine zAd ?_
        refine zAa (by rfl) trivial (fun h3 => ?_) (fun h3 => ?_)
        · cases h3
        · try simp (maxSteps := 2000000) only [go_sem]
          repeat with_reducible refine zAd ?_
          refine zAa (by rfl) trivial (fun h4 => ?_) (fun h4 => ?_)
          · try simp (maxSteps := 2000000) only [go_sem]
            repeat with_reducible refine zAd ?_
            exact zAl rfl trivial (.inl rfl)
          · cases h4
  · refine zCA (base := 0) ⟨Nat.le_of_ble_eq_true rfl, Nat.le_of_ble_eq_true rfl, Nat.le_of_ble_eq_true rfl, rfl⟩ (fun hfit => ?_)
    unfold F0 zBB
    simp (maxSteps := 2000000) only [zAN, List.set_cons_succ, List.set_cons_zero, List.map_cons, List.map_nil, zAM, zAb, ioOf, List.length_cons, List.length_nil, Nat.reduceAdd, Nat.reduceSub, List.replicate, List.cons_append, List.nil_append]
    try simp (maxSteps := 2000000) only [go_sem]
    repeat with_reducible refine zAd ?_
    refine zAa (by rfl) trivial (fun h1 => ?_) (fun h1 => ?_)
    · cases h1
    · try simp (maxSteps := 2000000) only [go_sem]
      repeat with_reducible refine zAd ?_
      refine zAa (by rfl) trivial (fun h2 => ?_) (fun h2 => ?_)
      · cases h2
      · try simp (maxSteps := 2000000) only [go_sem]
        repeat with_reducible refine zAd ?_
        refine zAa (by rfl) trivial (fun h3 => ?_) (fun h3 => ?_)
        · cases h3
        · try simp (maxSteps := 2000000) only [go_sem]
          repeat with_reducible refine zAd ?_
          refine zAa (by rfl) trivial (fun h4 => ?_) (fun h4 => ?_)
          · cases h4
          · try simp (maxSteps := 2000000) only [go_sem]
            repeat with_reducible refine zAd ?_
            exact zAl rfl trivial (.inl rfl)
end Go.Hx
end

section
set_option maxRecDepth 100000
set_option linter.unusedSimpArgs false
namespace Go.Hx
open Go.Proofs Go.RowKit
variable [Glob]
attribute [local go_sem] zAz zAx zAy zAq ndV zAu zAp
attribute [local go_sem] reduceCtorEq Nat.reduceAdd Nat.reduceEqDiff reduceIte Nat.reduceLeDiff Nat.reduceLT Nat.reduceSub
theorem zJB {E : Env} {base t j bs off n : Nat} {av : List AV} {F : List Ct} {agg : Bool} {cs cells io : List PV} {x : PVal} (e : F.getD t .un = .ptr j off) (h : zAE F (bs + off) n = some cs) (hx : x = (if agg then PVal.agg cs else .one (cs.headD (.nl 0))).norm) (hio : ioOf av = some cells) (hc : zAE F base cells.length = some io) : zCj E base av [.cellB t j bs off n agg] { res := .val x, io := io } .ret F :=
 ⟨by simp only [zCQ]; exact zBg e h (.inr hx), fun cs' h' => by rw [hio] at h'; injection h' with h'; subst h'; exact hc⟩
def zEz (s : Bys) : RV := match zXe s with
 | some (t, r) => { res := .val (.agg (tsV t)), io := [bS r] }
 | none => { res := .pan xbV }
theorem yCm {s : Bys} {i : Int} (hi : 4 ≤ i ∧ i ≤ 8) (hb : ∀ j : Int, 4 ≤ j → j < i → zAs s (zLc j ++ [34]) = false) (h : zAs s (zLc i ++ [34]) = true) : kd s = i := by
 have e4 : i ≠ 4 → zAs s [61, 34] = false := fun hne => hb 4 (by omega) (by omega)
 have e5 : 5 < i → zAs s [94, 61, 34] = false := fun hne => hb 5 (by omega) (by omega)
 have e6 : 6 < i → zAs s [36, 61, 34] = false := fun hne => hb 6 (by omega) (by omega)
 have e7 : 7 < i → zAs s [42, 61, 34] = false := fun hne => hb 7 (by omega) (by omega)
 rcases zOb hi with rfl | rfl | rfl | rfl | rfl
 ·unfold kd
  exact if_pos h
 ·unfold kd
  rw [e4 (by decide), if_neg (by simp)]
  exact if_pos h
 ·unfold kd
  rw [e4 (by decide), e5 (by decide), if_neg (by simp), if_neg (by simp)]
  exact if_pos h
 ·unfold kd
  rw [e4 (by decide), e5 (by decide), e6 (by decide), if_neg (by simp), if_neg (by simp), if_neg (by simp)]
  exact if_pos h
 ·unfold kd
  rw [e4 (by decide), e5 (by decide), e6 (by decide), e7 (by decide), if_neg (by simp), if_neg (by simp), if_neg (by simp), if_neg (by simp)]
  exact if_pos h
theorem yGb {s : Bys} (hb : ∀ j : Int, 4 ≤ j → j < 9 → zAs s (zLc j ++ [34]) = false) : kd s = 3 := by
 have e4 : zAs s [61, 34] = false := hb 4 (by omega) (by omega)
 have e5 : zAs s [94, 61, 34] = false := hb 5 (by omega) (by omega)
 have e6 : zAs s [36, 61, 34] = false := hb 6 (by omega) (by omega)
 have e7 : zAs s [42, 61, 34] = false := hb 7 (by omega) (by omega)
 have e8 : zAs s [126, 61, 34] = false := hb 8 (by omega) (by omega)
 unfold kd
 rw [e4, e5, e6, e7, e8]
 simp
theorem yEr (k : Int) : (zLc k).length ≤ 2 := by
 unfold zLc
 split
 ·decide
 ·split
  ·decide
  ·split
   ·decide
   ·split <;> decide
set_option maxHeartbeats 4000000 in
theorem zXm (hM : yAr) (s : Bys) (hs : s.length ≤ 268435456) : Contract Tryz.prog zDR [.io [bS s]] (zEz s) := by
 have hm0 : maxLen = 9223372036854775807 := rfl
 have hr1 := zW9 s
 refine zKb (base := 25) ⟨Nat.le_of_ble_eq_true rfl, Nat.le_of_ble_eq_true rfl, Nat.le_of_ble_eq_true rfl, ⟨rfl, rfl⟩⟩ (fun hfit => ?_) (fun _ _ => rfl)
 unfold F0 zC7
 simp (maxSteps := 2000000) only [zAN, List.set_cons_succ, List.set_cons_zero, List.map_cons, List.map_nil, zAM, zAb, ioOf, List.length_cons, List.length_nil, Nat.reduceAdd, Nat.reduceSub, List.replicate, List.cons_append, List.nil_append]
 try simp (maxSteps := 2000000) only [go_sem]
 repeat with_reducible refine zAd ?_
 refine zAh (by repeat' constructor) (zCB s) ?_
 try simp (maxSteps := 2000000) only [go_sem]
 repeat with_reducible refine zAd ?_
 refine zAo (fun i : Nat => [(4, .pv (iv i)), (25, .pv (.one (bS (nmR s)))), (32, .pv (.one (bI 3))), (33, .pv (.one (bS (zE4 s)))), (34, .pv (.one (bS []))), (35, .pv (.one (bI 0))), (36, .pv (.one (bI 0))), (37, .pv (.one (.nl 2))), (9, .un), (16, .un)]) (fun i : Nat => 9 - i) (fun i : Nat => 4 ≤ i ∧ i ≤ 9 ∧ ∀ j : Int, 4 ≤ j → j < i → zAs (nmR s) (zLc j ++ [34]) = false) (4) ?_ ⟨Nat.le_refl _, by decide, fun j h1 h2 => by omega⟩ ?_
 focus (simp (maxSteps := 2000000) only [go_sem, zAe, zAj, zAt, zAc]; all_goals (repeat' (first | exact trivial | exact zAg (by omega) | exact zAf rfl | exact zAr rfl | exact zAk | exact le_refl _ | refine And.intro ?_ ?_)))
 rintro i ⟨i1, i2, hb⟩
 have hsl := yEr i
 try simp (maxSteps := 2000000) only [go_sem]
 repeat with_reducible refine zAd ?_
 refine zAa (by rfl) trivial (fun h => ?_) (fun h => ?_)
 ·have hi : i ≤ 8 := by have := of_decide_eq_true h; omega
  try simp (maxSteps := 2000000) only [go_sem]
  repeat with_reducible refine zAd ?_
  refine zAh (by repeat' constructor) (yAP (i : Int) ⟨by omega, by omega⟩) ?_
  try simp (maxSteps := 2000000) only [go_sem, List.length_append, List.length_cons, List.length_nil]
  repeat with_reducible refine zAd ?_
  refine zAh (by repeat' constructor) (zBy (nmR s) (zLc i ++ [34])) ?_
  try simp (maxSteps := 2000000) only [go_sem]
  repeat with_reducible refine zAd ?_
  refine zAa (by rfl) trivial (fun g => ?_) (fun g => ?_)
  ·have hk := yCm ⟨by omega, by omega⟩ hb g
   have hat : zAw (nmR s) (zLc i ++ [34]) = atS s := by unfold atS; rw [hk]
   have hal : (atS s).length ≤ s.length := by rw [← hat]; exact Nat.le_trans (zN1 _ _) hr1
   rw [hat]
   try simp (maxSteps := 2000000) only [go_sem]
   repeat with_reducible refine zAd ?_
   cases hc : (Lib.cut (atS s) [34]).2.2 with
   | false =>
    have e : zEz s = { res := .pan xbV } := by unfold zEz zXe; rw [hk, if_neg (by omega), hc]; rfl
    rw [e]
    refine zBA (by repeat' constructor) (zGm hM (atS s) [34] (by omega) hc) ?_
    try simp (maxSteps := 2000000) only [go_sem]
    repeat with_reducible refine zAd ?_
    exact ⟨_, rfl, rfl⟩
   | true =>
    have hcl := (yAs (atS s) [34]).2
    refine zAh (by repeat' constructor) (zOe hM (atS s) [34] (by omega) hc) ?_
    try simp (maxSteps := 2000000) only [go_sem]
    repeat with_reducible refine zAd ?_
    cases hm : zAs (Lib.cut (atS s) [34]).2.1 [93] with
    | false =>
     have e : zEz s = { res := .pan xbV } := by unfold zEz zXe; rw [hk, if_neg (by omega), hc, hm]; rfl
     rw [e]
     refine zBA (by repeat' constructor) (zCi _ _ hm) ?_
     try simp (maxSteps := 2000000) only [go_sem]
     repeat with_reducible refine zAd ?_
     exact ⟨_, rfl, rfl⟩
    | true =>
     have e : zEz s = { res := .val (.agg (tsV (.mk i (zE4 s) (Lib.cut (atS s) [34]).1 0 0 []))), io := [bS (zAw (Lib.cut (atS s) [34]).2.1 [93])] } := by unfold zEz zXe; rw [hk, if_neg (by omega), hc, hm]; rfl
     rw [e]
     refine zB6 (by repeat' constructor) (zEw _ _ hm) ?_
     try simp (maxSteps := 2000000) only [go_sem]
     repeat with_reducible refine zAd ?_
     exact zJB rfl rfl rfl rfl rfl
  ·have e0 : zAw (nmR s) (zLc i ++ [34]) = nmR s := by unfold zAw; rw [g]; rfl
   try simp (maxSteps := 2000000) only [go_sem]
   repeat with_reducible refine zAd ?_
   rw [e0]
   refine ⟨i + 1, by omega, ⟨by omega, by omega, fun j h1 h2 => ?_⟩, ?_⟩
   ·by_cases hj : j < i
    ·exact hb j h1 hj
    ·have : j = i := by omega
     rw [this]; exact g
   ·simp (maxSteps := 2000000) only [go_sem, zAe, zAj, zAt, zAc]
    all_goals (repeat' (first | exact trivial | exact zAg (by omega) | exact zAf rfl | exact zAr rfl | exact zAk | exact le_refl _ | refine And.intro ?_ ?_))
 ·have hi : i = 9 := by have := of_decide_eq_false h; omega
  subst hi
  have hk := yGb hb
  try simp (maxSteps := 2000000) only [go_sem]
  repeat with_reducible refine zAd ?_
  cases hm : zAs (nmR s) [93] with
  | false =>
   have e : zEz s = { res := .pan xbV } := by unfold zEz zXe; rw [hk, if_pos rfl, hm]; rfl
   rw [e]
   refine zBA (by repeat' constructor) (zCi _ _ hm) ?_
   try simp (maxSteps := 2000000) only [go_sem]
   repeat with_reducible refine zAd ?_
   exact ⟨_, rfl, rfl⟩
  | true =>
   have e : zEz s = { res := .val (.agg (tsV (.mk 3 (zE4 s) [] 0 0 []))), io := [bS (zAw (nmR s) [93])] } := by unfold zEz zXe; rw [hk, if_pos rfl, hm]; rfl
   rw [e]
   refine zB6 (by repeat' constructor) (zEw _ _ hm) ?_
   try simp (maxSteps := 2000000) only [go_sem]
   repeat with_reducible refine zAd ?_
   exact zJB rfl rfl rfl rfl rfl
end Go.Hx
end

section
set_option maxRecDepth 100000
set_option linter.unusedSimpArgs false
namespace Go.Hx
open Go.Proofs Go.RowKit
attribute [local instance] zA2
attribute [local go_sem] zAz zAx zAy zAq ndV zAu zAp
attribute [local go_sem] reduceCtorEq Nat.reduceAdd Nat.reduceEqDiff reduceIte Nat.reduceLeDiff Nat.reduceLT Nat.reduceSub
abbrev yEB (b : Nat) (l : List (Bys × Int)) : OV := .mp b (l.map fun x => mkS x.1) (l.map fun x => .p (bI x.2))
def yA0 : List (Bys × Int) → Bys → Option Int
 | [], _ => none
 | x :: l, w => if w = x.1 then some x.2 else yA0 l w
theorem yGc (a b : Bys) : zE8 (mkS a) (mkS b) = decide (a = b) := rfl
theorem yA1 : ∀ (l : List (Bys × Int)) (w : Bys), (zF4 (l.map fun x => mkS x.1) (mkS w) = none ∧ yA0 l w = none) ∨ (∃ i, zF4 (l.map fun x => mkS x.1) (mkS w) = some i ∧ i < l.length ∧ yA0 l w = some (l.getD i default).2)
 | [], w => .inl ⟨rfl, rfl⟩
 | x :: l, w => by
  unfold zF4
  simp only [List.map_cons, List.findIdx?_cons, yGc, yA0]
  by_cases h : w = x.1
  ·right
   exact ⟨0, by simp [h], by simp, by simp [h]⟩
  ·simp only [h, decide_false, Bool.false_eq_true, if_false]
   rcases yA1 l w with ⟨h1, h2⟩ | ⟨i, h1, h2, h3⟩
   ·left
    unfold zF4 at h1
    exact ⟨by rw [h1]; rfl, h2⟩
   ·right
    unfold zF4 at h1
    exact ⟨i + 1, by rw [h1]; rfl, by simp; omega, by simpa using h3⟩
section
variable {P : Program} {F : List Ct} {K : List Ct → Prop} {X : Value → List Ct → Prop}
theorem yGd {d : Nat} (h : ∀ b, K (F.set d (.ov (.one (yEB b []))))) : hoW P ⟨none, .mmk d⟩ F K X := h
theorem zXn {r b : Nat} {l : List (Bys × Int)} {w : Bys} {n : Int} (hr : F.getD r .un = .ov (.one (yEB b l))) (hw : yA0 l w = none) (hK : K (F.set r (.ov (.one (yEB b (l ++ [(w, n)])))))) : hoW P ⟨none, .mps (.t r) r 2 (.c (sv w)) (.c (iv n))⟩ F K X := by
 have hput : zV1 b (l.map fun x => mkS x.1) (l.map fun x => .p (bI x.2)) (mkS w) (.p (bI n)) = yEB b (l ++ [(w, n)]) := by
  unfold zV1
  rcases yA1 l w with ⟨h1, _⟩ | ⟨i, _, _, h3⟩
  ·rw [h1]; simp [yEB]
  ·rw [hw] at h3; cases h3
 have hk : ∀ q ∈ (l.map fun x => mkS x.1), zOL q = 2 := by
  intro q hq
  obtain ⟨x, _, rfl⟩ := List.mem_map.1 hq
  rfl
 rw [yG8]
 have hm : zT1 F (.t r) = some b := by unfold zT1; simp only [zAp, hr]
 unfold zRb
 rw [hm, hr]
 refine ⟨rfl, trivial, rfl, hk, (fun s h => by cases h), trivial, ?_⟩
 change K (F.set r (Ct.ov (OVal.one (zV1 b (l.map fun x => mkS x.1) (l.map fun x => OV.p (bI x.2)) (mkS w) (.p (bI n))))))
 rw [hput]
 exact hK
theorem yGe {d x q r b : Nat} {l : List (Bys × Int)} {w : Bys} {ok : Bool} (hx : F.getD x .un = .mph b) (hr : F.getD r .un = .ov (.one (yEB b l))) (hq : F.getD q .un = .pv (sv w)) (hK : K (F.set d (if ok then .tup [iv ((yA0 l w).getD 0), bv (yA0 l w).isSome] else .pv (iv ((yA0 l w).getD 0))))) : hoW P ⟨none, .mpl d (.t x) r 2 (.t q) (.v (.int .i64 0)) ok⟩ F K X := by
 have hk : ∀ q ∈ (l.map fun x => mkS x.1), zOL q = 2 := by
  intro q hq
  obtain ⟨x, _, rfl⟩ := List.mem_map.1 hq
  rfl
 rw [yG9]
 have hm : zT1 F (.t x) = some b := by unfold zT1; simp only [zAp, hx]
 have hqv : (zAp F (.t q)).pv? = some (sv w) := by simp only [zAp, hq]; rfl
 have hqn : (zAp F (.t q)).need := by simp only [zAp, hq]; trivial
 unfold zRb
 rw [hm, hr, hqv]
 refine ⟨rfl, hqn, rfl, hk, ?_⟩
 rcases yA1 l w with ⟨h1, h2⟩ | ⟨i, h1, h2, h3⟩
 ·rw [h1]
  simp only [zV2]
  rw [h2] at hK
  exact hK
 ·rw [h1]
  have : (l.map fun x => OV.p (bI x.2)).getD i .hole = .p (bI (l.getD i default).2) := by simp [h2]
  simp only [zV2, this]
  rw [h3] at hK
  exact hK
end
theorem zYk {s : Bys} {c : UInt8} (h : zAs s [c] = true) : (zAw s [c]).length + 1 = s.length := by
 have := congrArg List.length (zN2 h)
 rw [List.length_cons] at this
 omega
theorem yA2 : yAr := fun w h => h.mx
def zBP (f d : Nat) (s : Bys) : RV := match zTU f d s with
 | some (l, r) => { res := .own zCd 2 (zF2 l), io := [bS r] }
 | none => { res := .pan xbV }
def zAQ (f d : Nat) (s : Bys) : RV := match zJz f d s with
 | some (some t, r) => { res := .tup [.agg (tsV t), bv true], io := [bS r] }
 | some (none, r) => { res := .tup [.agg (tsV (.mk 0 [] [] 0 0 [])), bv false], io := [bS r] }
 | none => { res := .pan xbV }
set_option maxHeartbeats 8000000 in
theorem zXo (f : Nat) (hL : ∀ (d : Nat) (s : Bys), d ≤ 1000 → s.length ≤ 268435456 → 4 * s.length + 5 ≤ f → Contract Tryz.prog zBb [.io [bS s], .val (iv d)] (zBP f d s)) (d : Nat) (s : Bys) (hd : d < 1000) (hs : s.length ≤ 268435456) (hf : 4 * s.length + 1 ≤ f + 1) : Contract Tryz.prog zBV [.io [bS s], .val (iv d)] (zAQ (f + 1) d s) := by
 have hM := yA2
 refine zKm (base := 87) ⟨Nat.le_of_ble_eq_true rfl, Nat.le_of_ble_eq_true rfl, Nat.le_of_ble_eq_true rfl, ⟨rfl, rfl⟩⟩ (fun hfit => ?_) (fun _ _ => rfl)
 unfold F0 zC8
 simp (maxSteps := 2000000) only [zAN, List.set_cons_succ, List.set_cons_zero, List.map_cons, List.map_nil, zAM, zAb, ioOf, List.length_cons, List.length_nil, Nat.reduceAdd, Nat.reduceSub, List.replicate, List.cons_append, List.nil_append]
 try simp (maxSteps := 2000000) only [go_sem]
 repeat with_reducible refine zAd ?_
 refine zAh (by repeat' constructor) (zBy s [46]) ?_
 try simp (maxSteps := 2000000) only [go_sem]
 repeat with_reducible refine zAd ?_
 refine zAa (by rfl) trivial (fun h1 => ?_) (fun h1 => ?_)
 ·have hd1 := zN2 h1
  have e : zAQ (f + 1) d s = { res := .tup [.agg (tsV (.mk 1 (zE4 (zAw s [46])) [] 0 0 [])), bv true], io := [bS (nmR (zAw s [46]))] } := by unfold zAQ; rw [zJz, if_pos h1]
  rw [e]
  try simp (maxSteps := 2000000) only [go_sem]
  repeat with_reducible refine zAd ?_
  refine zAh (by repeat' constructor) (zCB (zAw s [46])) ?_
  try simp (maxSteps := 2000000) only [go_sem]
  repeat with_reducible refine zAd ?_
  exact zDH (by simp) ⟨zBg rfl rfl (.inr rfl), zA1 rfl trivial (.inl rfl), rfl⟩ rfl rfl
 ·have e46 : zAw s [46] = s := by unfold zAw; rw [h1]; rfl
  try simp (maxSteps := 2000000) only [go_sem]
  repeat with_reducible refine zAd ?_
  rw [e46]
  refine zAh (by repeat' constructor) (zBy s [35]) ?_
  try simp (maxSteps := 2000000) only [go_sem]
  repeat with_reducible refine zAd ?_
  refine zAa (by rfl) trivial (fun h2 => ?_) (fun h2 => ?_)
  ·have e : zAQ (f + 1) d s = { res := .tup [.agg (tsV (.mk 2 (zE4 (zAw s [35])) [] 0 0 [])), bv true], io := [bS (nmR (zAw s [35]))] } := by unfold zAQ; rw [zJz, if_neg (by rw [h1]; simp), if_pos h2]
   rw [e]
   try simp (maxSteps := 2000000) only [go_sem]
   repeat with_reducible refine zAd ?_
   refine zAh (by repeat' constructor) (zCB (zAw s [35])) ?_
   try simp (maxSteps := 2000000) only [go_sem]
   repeat with_reducible refine zAd ?_
   exact zDH (by simp) ⟨zBg rfl rfl (.inr rfl), zA1 rfl trivial (.inl rfl), rfl⟩ rfl rfl
  ·have e35 : zAw s [35] = s := by unfold zAw; rw [h2]; rfl
   try simp (maxSteps := 2000000) only [go_sem]
   repeat with_reducible refine zAd ?_
   rw [e35]
   refine zAh (by repeat' constructor) (zBy s [91]) ?_
   try simp (maxSteps := 2000000) only [go_sem]
   repeat with_reducible refine zAd ?_
   refine zAa (by rfl) trivial (fun h3 => ?_) (fun h3 => ?_)
   ·have hsl := zN1 s [91]
    have hA := zXm hM (zAw s [91]) (by omega)
    cases ha : zXe (zAw s [91]) with
    | none =>
     have e : zAQ (f + 1) d s = { res := .pan xbV } := by unfold zAQ; rw [zJz, if_neg (by rw [h1]; simp), if_neg (by rw [h2]; simp), if_pos h3, ha]
     have e2 : zEz (zAw s [91]) = { res := .pan xbV } := by unfold zEz; rw [ha]
     rw [e2] at hA
     rw [e]
     try simp (maxSteps := 2000000) only [go_sem]
     repeat with_reducible refine zAd ?_
     refine zBA (by repeat' constructor) hA ?_
     try simp (maxSteps := 2000000) only [go_sem]
     repeat with_reducible refine zAd ?_
     exact ⟨_, rfl, rfl⟩
    | some tr =>
     obtain ⟨t, r⟩ := tr
     have e : zAQ (f + 1) d s = { res := .tup [.agg (tsV t), bv true], io := [bS r] } := by unfold zAQ; rw [zJz, if_neg (by rw [h1]; simp), if_neg (by rw [h2]; simp), if_pos h3, ha]
     have e2 : zEz (zAw s [91]) = { res := .val (.agg (tsV t)), io := [bS r] } := by unfold zEz; rw [ha]
     rw [e2] at hA
     rw [e]
     try simp (maxSteps := 2000000) only [go_sem]
     repeat with_reducible refine zAd ?_
     refine zAh (by repeat' constructor) (hA) ?_
     try simp (maxSteps := 2000000) only [go_sem, zCg]
     repeat with_reducible refine zAd ?_
     exact zDH (by simp) ⟨zBg rfl rfl (.inl rfl), zA1 rfl trivial (.inl rfl), rfl⟩ rfl rfl
   ·have e91 : zAw s [91] = s := by unfold zAw; rw [h3]; rfl
    try simp (maxSteps := 2000000) only [go_sem]
    repeat with_reducible refine zAd ?_
    rw [e91]
    refine zAh (by repeat' constructor) (zBy s [58]) ?_
    try simp (maxSteps := 2000000) only [go_sem]
    repeat with_reducible refine zAd ?_
    refine zAa (by rfl) trivial (fun h4 => ?_) (fun h4 => ?_)
    ·have h4' : zAs s [58] = false := by simpa using h4
     have e58 : zAw s [58] = s := by unfold zAw; rw [h4']; rfl
     have e : zAQ (f + 1) d s = { res := .tup [.agg (tsV (.mk 0 [] [] 0 0 [])), bv false], io := [bS s] } := by unfold zAQ; rw [zJz, if_neg (by rw [h1]; simp), if_neg (by rw [h2]; simp), if_neg (by rw [h3]; simp), if_pos h4']
     rw [e]
     try simp (maxSteps := 2000000) only [go_sem]
     repeat with_reducible refine zAd ?_
     rw [e58]
     exact zDH (by simp) ⟨zBg rfl rfl (.inr rfl), zA1 rfl trivial (.inl rfl), rfl⟩ rfl rfl
    ·have h4' : zAs s [58] = true := by simpa using h4
     have hsd := zYk h4'
     try simp (maxSteps := 2000000) only [go_sem]
     repeat with_reducible refine zAd ?_
     refine zAh (by repeat' constructor) (zCB (zAw s [58])) ?_
     try simp (maxSteps := 2000000) only [go_sem]
     repeat with_reducible refine zAd ?_
     refine yGd (fun b => ?_)
     try simp (maxSteps := 2000000) only [go_sem]
     repeat with_reducible refine zAd ?_
     refine zXn (b := b) (l := []) (w := [101, 109, 112, 116, 121]) (n := 11) rfl rfl ?_
     try simp (maxSteps := 2000000) only [go_sem]
     repeat with_reducible refine zAd ?_
     refine zXn (b := b) (l := [([101, 109, 112, 116, 121], 11)]) (w := [114, 111, 111, 116]) (n := 12) rfl rfl ?_
     try simp (maxSteps := 2000000) only [go_sem]
     repeat with_reducible refine zAd ?_
     refine yGe (b := b) (l := [([101, 109, 112, 116, 121], 11), ([114, 111, 111, 116], 12)]) (w := zE4 (zAw s [58])) rfl rfl rfl ?_
     try simp (maxSteps := 2000000) only [go_sem]
     repeat with_reducible refine zAd ?_
     have hP : zJz (f + 1) d s = zVW (zTU f (d + 1)) (zAw s [58]) := by rw [zJz, if_neg (by rw [h1]; simp), if_neg (by rw [h2]; simp), if_neg (by rw [h3]; simp), if_neg (by rw [h4']; simp)]
     have hnl := zW9 (zAw s [58])
     have hg1 : yA0 [([101, 109, 112, 116, 121], 11), ([114, 111, 111, 116], 12)] (zE4 (zAw s [58])) = (if zE4 (zAw s [58]) = [101, 109, 112, 116, 121] then some 11 else if zE4 (zAw s [58]) = [114, 111, 111, 116] then some 12 else none) := rfl
     by_cases w1 : zE4 (zAw s [58]) = [101, 109, 112, 116, 121]
     ·have e : zAQ (f + 1) d s = { res := .tup [.agg (tsV (.mk 11 [] [] 0 0 [])), bv true], io := [bS (nmR (zAw s [58]))] } := by unfold zAQ; rw [hP, zVW, if_pos w1]
      rw [if_pos w1] at hg1
      rw [e]
      refine zAa (by rfl) trivial (fun h5 => ?_) (fun h5 => ?_)
      ·try simp (maxSteps := 2000000) only [go_sem, hg1]
       repeat with_reducible refine zAd ?_
       exact zDH (by simp) ⟨zBg rfl rfl (.inr rfl), zA1 rfl trivial (.inl rfl), rfl⟩ rfl rfl
      ·rw [hg1] at h5; cases h5
     ·by_cases w2 : zE4 (zAw s [58]) = [114, 111, 111, 116]
      ·have e : zAQ (f + 1) d s = { res := .tup [.agg (tsV (.mk 12 [] [] 0 0 [])), bv true], io := [bS (nmR (zAw s [58]))] } := by unfold zAQ; rw [hP, zVW, if_neg w1, if_pos w2]
       rw [if_neg w1, if_pos w2] at hg1
       rw [e]
       refine zAa (by rfl) trivial (fun h5 => ?_) (fun h5 => ?_)
       ·try simp (maxSteps := 2000000) only [go_sem, hg1]
        repeat with_reducible refine zAd ?_
        exact zDH (by simp) ⟨zBg rfl rfl (.inr rfl), zA1 rfl trivial (.inl rfl), rfl⟩ rfl rfl
       ·rw [hg1] at h5; cases h5
      ·rw [if_neg w1, if_neg w2] at hg1
       refine zAa (by rfl) trivial (fun h5 => ?_) (fun h5 => ?_)
       ·rw [hg1] at h5; cases h5
       ·try simp (maxSteps := 2000000) only [go_sem]
        repeat with_reducible refine zAd ?_
        cases hm : zAs (nmR (zAw s [58])) [40] with
        | false =>
         have e : zAQ (f + 1) d s = { res := .pan xbV } := by unfold zAQ; rw [hP, zVW, if_neg w1, if_neg w2, if_pos hm]
         rw [e]
         refine zBA (by repeat' constructor) (zCi _ _ hm) ?_
         try simp (maxSteps := 2000000) only [go_sem]
         repeat with_reducible refine zAd ?_
         exact ⟨_, rfl, rfl⟩
        | true =>
         have hmd := zYk hm
         have hP2 : zJz (f + 1) d s = zVd (zTU f (d + 1)) (zFS (zE4 (zAw s [58]))) (zAw (nmR (zAw s [58])) [40]) := by rw [hP, zVW, if_neg w1, if_neg w2, if_neg (by rw [hm]; simp)]
         refine zB6 (by repeat' constructor) (zEw _ _ hm) ?_
         try simp (maxSteps := 2000000) only [go_sem]
         repeat with_reducible refine zAd ?_
         refine yGd (fun b2 => ?_)
         try simp (maxSteps := 2000000) only [go_sem]
         repeat with_reducible refine zAd ?_
         refine zXn (b := b2) (l := []) (w := [110, 116, 104]) (n := 9) rfl rfl ?_
         try simp (maxSteps := 2000000) only [go_sem]
         repeat with_reducible refine zAd ?_
         refine zXn (b := b2) (l := [([110, 116, 104], 9)]) (w := [108, 97, 115, 116]) (n := 10) rfl rfl ?_
         try simp (maxSteps := 2000000) only [go_sem]
         repeat with_reducible refine zAd ?_
         refine zXn (b := b2) (l := [([110, 116, 104], 9), ([108, 97, 115, 116], 10)]) (w := [110, 111, 116]) (n := 13) rfl rfl ?_
         try simp (maxSteps := 2000000) only [go_sem]
         repeat with_reducible refine zAd ?_
         refine zXn (b := b2) (l := [([110, 116, 104], 9), ([108, 97, 115, 116], 10), ([110, 111, 116], 13)]) (w := [105, 115]) (n := 14) rfl rfl ?_
         try simp (maxSteps := 2000000) only [go_sem]
         repeat with_reducible refine zAd ?_
         refine zXn (b := b2) (l := [([110, 116, 104], 9), ([108, 97, 115, 116], 10), ([110, 111, 116], 13), ([105, 115], 14)]) (w := [104, 97, 115]) (n := 15) rfl rfl ?_
         try simp (maxSteps := 2000000) only [go_sem]
         repeat with_reducible refine zAd ?_
         refine yGe (b := b2) (l := [([110, 116, 104], 9), ([108, 97, 115, 116], 10), ([110, 111, 116], 13), ([105, 115], 14), ([104, 97, 115], 15)]) (w := zE4 (zAw s [58])) rfl rfl rfl ?_
         have hg2 : (yA0 [([110, 116, 104], 9), ([108, 97, 115, 116], 10), ([110, 111, 116], 13), ([105, 115], 14), ([104, 97, 115], 15)] (zE4 (zAw s [58]))).getD 0 = zFS (zE4 (zAw s [58])) := by
          simp only [yA0, zFS]
          split
          ·rfl
          ·split
           ·rfl
           ·split
            ·rfl
            ·split
             ·rfl
             ·split <;> rfl
         rw [hg2]
         try simp (maxSteps := 2000000) only [go_sem]
         repeat with_reducible refine zAd ?_
         refine zAR (by repeat' constructor) (zVk (zFS (zE4 (zAw s [58])))) ?_
         try simp (maxSteps := 2000000) only [go_sem, shV]
         repeat with_reducible refine zAd ?_
         by_cases hk : zFS (zE4 (zAw s [58])) = 0
         ·have e : zAQ (f + 1) d s = { res := .pan xbV } := by unfold zAQ; rw [hP2, hk]; rfl
          rw [e]
          refine zAa (by rfl) trivial (fun h6 => ?_) (fun h6 => ?_)
          ·try simp (maxSteps := 2000000) only [go_sem]
           repeat with_reducible refine zAd ?_
           exact ⟨_, rfl, rfl⟩
          ·rw [hk] at h6; cases h6
         ·obtain ⟨_, k2⟩ := zQU hk
          refine zAa (by rfl) trivial (fun h6 => ?_) (fun h6 => ?_)
          ·exfalso
           rcases k2 with k2 | k2 | k2 | k2 | k2 <;> (rw [k2] at h6; cases h6)
          ·try simp (maxSteps := 2000000) only [go_sem]
           repeat with_reducible refine zAd ?_
           cases hl : zEb (zFS (zE4 (zAw s [58]))) with
           | true =>
            refine zAa (by rfl) trivial (fun h7 => ?_) (fun h7 => ?_)
            ·have hc := hL (d + 1) (zAw (nmR (zAw s [58])) [40]) (by omega) (by omega) (by omega)
             cases hr : zTU f (d + 1) (zAw (nmR (zAw s [58])) [40]) with
             | none =>
              have e2 : zBP f (d + 1) (zAw (nmR (zAw s [58])) [40]) = { res := .pan xbV } := by unfold zBP; rw [hr]
              have e : zAQ (f + 1) d s = { res := .pan xbV } := by unfold zAQ; rw [hP2, zVd, if_neg hk, hl, if_pos rfl, hr]
              rw [e2] at hc
              rw [e]
              try simp (maxSteps := 2000000) only [go_sem]
              repeat with_reducible refine zAd ?_
              refine zBA (by repeat' constructor) hc ?_
              try simp (maxSteps := 2000000) only [go_sem]
              repeat with_reducible refine zAd ?_
              exact ⟨_, rfl, rfl⟩
             | some lr =>
              obtain ⟨l, r⟩ := lr
              have e2 : zBP f (d + 1) (zAw (nmR (zAw s [58])) [40]) = { res := .own zCd 2 (zF2 l), io := [bS r] } := by unfold zBP; rw [hr]
              rw [e2] at hc
              try simp (maxSteps := 2000000) only [go_sem]
              repeat with_reducible refine zAd ?_
              refine zXY (by repeat' constructor) (hc) ?_
              try simp (maxSteps := 2000000) only [go_sem]
              repeat with_reducible refine zAd ?_
              cases hq : zAs r [41] with
              | false =>
               have e : zAQ (f + 1) d s = { res := .pan xbV } := by unfold zAQ; rw [hP2, zVd, if_neg hk, hl, if_pos rfl, hr]; simp only [hq, Bool.false_eq_true, if_false]
               rw [e]
               refine zBA (by repeat' constructor) (zCi _ _ hq) ?_
               try simp (maxSteps := 2000000) only [go_sem]
               repeat with_reducible refine zAd ?_
               exact ⟨_, rfl, rfl⟩
              | true =>
               have e : zAQ (f + 1) d s = { res := .tup [.agg (tsV (.mk (zFS (zE4 (zAw s [58]))) [] [] 0 0 l)), bv true], io := [bS (zAw r [41])] } := by unfold zAQ; rw [hP2, zVd, if_neg hk, hl, if_pos rfl, hr]; simp only [hq, if_true]
               rw [e]
               refine zB6 (by repeat' constructor) (zEw _ _ hq) ?_
               try simp (maxSteps := 2000000) only [go_sem]
               repeat with_reducible refine zAd ?_
               exact zDH (by simp) ⟨zBg rfl rfl (.inr rfl), zA1 rfl trivial (.inl rfl), rfl⟩ rfl rfl
            ·cases h7
           | false =>
            refine zAa (by rfl) trivial (fun h7 => ?_) (fun h7 => ?_)
            ·cases h7
            ·have hcl := (yAs (zAw (nmR (zAw s [58])) [40]) [41])
             try simp (maxSteps := 2000000) only [go_sem]
             repeat with_reducible refine zAd ?_
             cases hq : (Lib.cut (zAw (nmR (zAw s [58])) [40]) [41]).2.2 with
             | false =>
              have e : zAQ (f + 1) d s = { res := .pan xbV } := by unfold zAQ; rw [hP2, zVd, if_neg hk, hl, if_neg (by simp), hq]; rfl
              rw [e]
              refine zBA (by repeat' constructor) (zGm hM _ [41] (by omega) hq) ?_
              try simp (maxSteps := 2000000) only [go_sem]
              repeat with_reducible refine zAd ?_
              exact ⟨_, rfl, rfl⟩
             | true =>
              refine zAh (by repeat' constructor) (zOe hM _ [41] (by omega) hq) ?_
              try simp (maxSteps := 2000000) only [go_sem]
              repeat with_reducible refine zAd ?_
              have hN := zZg (Lib.cut (zAw (nmR (zAw s [58])) [40]) [41]).1 (by omega)
              cases hro : zFj (Lib.cut (zAw (nmR (zAw s [58])) [40]) [41]).1 with
              | false =>
               have e : zAQ (f + 1) d s = { res := .pan xbV } := by unfold zAQ; rw [hP2, zVd, if_neg hk, hl, if_neg (by simp), hq, hro]; rfl
               rw [e]
               rw [hro] at hN
               refine zAR (by repeat' constructor) (hN) ?_
               try simp (maxSteps := 2000000) only [go_sem, yAA]
               repeat with_reducible refine zAd ?_
               refine zAa (by rfl) trivial (fun h8 => ?_) (fun h8 => ?_)
               ·try simp (maxSteps := 2000000) only [go_sem]
                repeat with_reducible refine zAd ?_
                exact ⟨_, rfl, rfl⟩
               ·cases h8
              | true =>
               have e : zAQ (f + 1) d s = { res := .tup [.agg (tsV (.mk (zFS (zE4 (zAw s [58]))) [] [] (yB7 (Lib.cut (zAw (nmR (zAw s [58])) [40]) [41]).1) (yB8 (Lib.cut (zAw (nmR (zAw s [58])) [40]) [41]).1) [])), bv true], io := [bS (Lib.cut (zAw (nmR (zAw s [58])) [40]) [41]).2.1] } := by unfold zAQ; rw [hP2, zVd, if_neg hk, hl, if_neg (by simp), hq, hro]; rfl
               rw [e]
               rw [hro] at hN
               refine zAR (by repeat' constructor) (hN) ?_
               try simp (maxSteps := 2000000) only [go_sem, yAA]
               repeat with_reducible refine zAd ?_
               refine zAa (by rfl) trivial (fun h8 => ?_) (fun h8 => ?_)
               ·cases h8
               ·try simp (maxSteps := 2000000) only [go_sem]
                repeat with_reducible refine zAd ?_
                exact zDH (by simp) ⟨zBg rfl rfl (.inr rfl), zA1 rfl trivial (.inl rfl), rfl⟩ rfl rfl
end Go.Hx
end

section
set_option maxRecDepth 100000
set_option linter.unusedSimpArgs false
namespace Go.Hx
open Go.Proofs Go.RowKit
attribute [local instance] zA2
attribute [local go_sem] zAz zAx zAy zAq ndV zAu zAp
attribute [local go_sem] reduceCtorEq Nat.reduceAdd Nat.reduceEqDiff reduceIte Nat.reduceLeDiff Nat.reduceLT Nat.reduceSub
theorem zVs (l : List Ts) (t : Ts) : zSX (l ++ [t]) = zSX l ++ [tsV t] := by simp [zHM]
def zBf (f d : Nat) (s : Bys) : RV := match zS2 f d s with
 | some (x, r) => { res := .val (.agg (stV x)), io := [bS r] }
 | none => { res := .pan xbV }
set_option maxHeartbeats 8000000 in
theorem zXp (f : Nat) (hT : ∀ (g d : Nat) (s : Bys), g < f → d < 1000 → s.length ≤ 268435456 → 4 * s.length + 1 ≤ g → Contract Tryz.prog zBV [.io [bS s], .val (iv d)] (zAQ g d s)) (d : Nat) (s : Bys) (hd : d < 1000) (hs : s.length ≤ 268435456) (hf : 4 * s.length + 3 ≤ f + 1) : Contract Tryz.prog zBx [.io [bS s], .val (iv d)] (zBf (f + 1) d s) := by
 have hm0 : maxLen = 9223372036854775807 := rfl
 have hnl := zW9 s
 have hsl := zN1 (nmR s) [42]
 refine zKv (base := 31) ⟨Nat.le_of_ble_eq_true rfl, Nat.le_of_ble_eq_true rfl, Nat.le_of_ble_eq_true rfl, ⟨rfl, rfl⟩⟩ (fun hfit => ?_) (fun _ _ => rfl)
 unfold F0 zC9
 simp (maxSteps := 2000000) only [zAN, List.set_cons_succ, List.set_cons_zero, List.map_cons, List.map_nil, zAM, zAb, ioOf, List.length_cons, List.length_nil, Nat.reduceAdd, Nat.reduceSub, List.replicate, List.cons_append, List.nil_append]
 try simp (maxSteps := 2000000) only [go_sem]
 repeat with_reducible refine zAd ?_
 refine zAh (by repeat' constructor) (zCB s) ?_
 try simp (maxSteps := 2000000) only [go_sem]
 repeat with_reducible refine zAd ?_
 by_cases hn : zE4 s = []
 ·refine zAa (by rfl) trivial (fun h1 => ?_) (fun h1 => ?_)
  ·try simp (maxSteps := 2000000) only [go_sem]
   repeat with_reducible refine zAd ?_
   cases hm : zAs (nmR s) [42] with
   | false =>
    have e : zBf (f + 1) d s = { res := .pan xbV } := by unfold zBf; rw [zS2, if_pos hn, hm]; rfl
    rw [e]
    refine zBA (by repeat' constructor) (zCi _ _ hm) ?_
    try simp (maxSteps := 2000000) only [go_sem]
    repeat with_reducible refine zAd ?_
    exact ⟨_, rfl, rfl⟩
   | true =>
    have hE : zS2 (f + 1) d s = (match zGl f d (zAw (nmR s) [42]) [] with | some (l, r) => some (.mk [] l, r) | none => none) := by rw [zS2, if_pos hn, hm] <;> rfl
    refine zB6 (by repeat' constructor) (zEw _ _ hm) ?_
    try simp (maxSteps := 2000000) only [go_sem]
    repeat with_reducible refine zAd ?_
    refine zAo (fun x : Nat × List Ts × Bys => [(31, .pv (.one (bS x.2.2))), (34, .pv (.one (bS (zE4 s)))), (35, .own zFL 6 (zSX x.2.1)), (6, .un), (7, .un), (23, .un), (32, .un), (33, .un), (36, .un), (37, .un), (38, .un), (39, .un), (40, .un), (41, .un)]) (fun x : Nat × List Ts × Bys => x.1) (fun x : Nat × List Ts × Bys => 4 * x.2.2.length + 2 ≤ x.1 ∧ x.1 ≤ f ∧ x.2.1.length + x.2.2.length ≤ s.length ∧ zGl x.1 d x.2.2 x.2.1 = zGl f d (zAw (nmR s) [42]) []) ((f, [], zAw (nmR s) [42])) ?_ ⟨by simp only; omega, Nat.le_refl _, by simp; omega, rfl⟩ ?_
    focus (simp (maxSteps := 2000000) only [go_sem, zAe, zAj, zAt, zAc]; all_goals (repeat' (first | exact trivial | exact zAg (by omega) | exact zAf rfl | exact zAr rfl | exact zAk | exact le_refl _ | refine And.intro ?_ ?_)))
    rintro ⟨g, ts, r⟩ ⟨k1, k2, k3, k4⟩
    simp only at k1 k2 k3 k4
    obtain ⟨g', rfl⟩ : ∃ g', g = g' + 1 := ⟨g - 1, by omega⟩
    have hc := hT g' d r (by omega) hd (by omega) (by omega)
    rw [zGl] at k4
    cases ht : zJz g' d r with
    | none =>
     rw [ht] at k4
     have e2 : zAQ g' d r = { res := .pan xbV } := by unfold zAQ; rw [ht]
     have e : zBf (f + 1) d s = { res := .pan xbV } := by unfold zBf; rw [hE, ← k4]
     rw [e2] at hc
     rw [e]
     try simp (maxSteps := 2000000) only [go_sem, zAW]
     repeat with_reducible refine zAd ?_
     refine zBA (by repeat' constructor) hc ?_
     try simp (maxSteps := 2000000) only [go_sem]
     repeat with_reducible refine zAd ?_
     exact ⟨_, rfl, rfl⟩
    | some tr =>
     obtain ⟨o, r'⟩ := tr
     rw [ht] at k4
     cases o with
     | none =>
      simp only at k4
      have e2 : zAQ g' d r = { res := .tup [.agg (tsV (.mk 0 [] [] 0 0 [])), bv false], io := [bS r'] } := by unfold zAQ; rw [ht]
      have e : zBf (f + 1) d s = { res := .val (.agg (stV (.mk (zE4 s) ts))), io := [bS r'] } := by unfold zBf; rw [hE, ← k4]; simp only [hn]
      rw [e2] at hc
      rw [e]
      try simp (maxSteps := 2000000) only [go_sem, zAW]
      repeat with_reducible refine zAd ?_
      refine zAR (by repeat' constructor) (hc) ?_
      try simp (maxSteps := 2000000) only [go_sem, zCg]
      repeat with_reducible refine zAd ?_
      refine zAa (by rfl) trivial (fun h5 => ?_) (fun h5 => ?_)
      ·try simp (maxSteps := 2000000) only [go_sem]
       repeat with_reducible refine zAd ?_
       exact zN6 rfl rfl rfl rfl rfl
      ·cases h5
     | some t =>
      simp only at k4
      have e2 : zAQ g' d r = { res := .tup [.agg (tsV t), bv true], io := [bS r'] } := by unfold zAQ; rw [ht]
      have hlen : r'.length + 1 ≤ r.length := by
       have h1 := (zFT g').1 _ _ _ _ ht
       obtain ⟨c, q, e3, _⟩ := zHO t
       rw [h1, e3]
       simp only [List.cons_append, List.length_cons, List.length_append]
       omega
      rw [e2] at hc
      try simp (maxSteps := 2000000) only [go_sem, zAW]
      repeat with_reducible refine zAd ?_
      refine zAR (by repeat' constructor) (hc) ?_
      try simp (maxSteps := 2000000) only [go_sem, zCg, zAW]
      repeat with_reducible refine zAd ?_
      refine zAa (by rfl) trivial (fun h5 => ?_) (fun h5 => ?_)
      ·cases h5
      ·try simp (maxSteps := 2000000) only [go_sem, zAW]
       repeat with_reducible refine zAd ?_
       refine ⟨(g', ts ++ [t], r'), by simp only; omega, ⟨by simp only; omega, by simp only; omega, by simp only [List.length_append, List.length_cons, List.length_nil]; omega, k4⟩, ?_⟩
       simp (maxSteps := 2000000) only [go_sem, zAe, zAj, zAt, zAc]
       all_goals (repeat' (first | exact trivial | exact zAg (by omega) | exact zAf rfl | exact zAr rfl | exact zAk | exact le_refl _ | refine And.intro ?_ ?_))
       all_goals first | exact zAc | exact zAr (by rw [zVs, zCg]) | rfl
  ·rw [hn] at h1; cases h1
 ·refine zAa (by rfl) trivial (fun h1 => ?_) (fun h1 => ?_)
  ·exfalso; exact hn (by simpa using h1)
  ·have hE : zS2 (f + 1) d s = (match zGl f d (nmR s) [] with | some (l, r) => some (.mk (zE4 s) l, r) | none => none) := by rw [zS2, if_neg hn] <;> rfl
   try simp (maxSteps := 2000000) only [go_sem]
   repeat with_reducible refine zAd ?_
   refine zAo (fun x : Nat × List Ts × Bys => [(31, .pv (.one (bS x.2.2))), (34, .pv (.one (bS (zE4 s)))), (35, .own zFL 6 (zSX x.2.1)), (6, .un), (7, .un), (23, .un), (32, .un), (33, .un), (36, .un), (37, .un), (38, .un), (39, .un), (40, .un), (41, .un)]) (fun x : Nat × List Ts × Bys => x.1) (fun x : Nat × List Ts × Bys => 4 * x.2.2.length + 2 ≤ x.1 ∧ x.1 ≤ f ∧ x.2.1.length + x.2.2.length ≤ s.length ∧ zGl x.1 d x.2.2 x.2.1 = zGl f d (nmR s) []) ((f, [], nmR s)) ?_ ⟨by simp only; omega, Nat.le_refl _, by simp; omega, rfl⟩ ?_
   focus (simp (maxSteps := 2000000) only [go_sem, zAe, zAj, zAt, zAc]; all_goals (repeat' (first | exact trivial | exact zAg (by omega) | exact zAf rfl | exact zAr rfl | exact zAk | exact le_refl _ | refine And.intro ?_ ?_)))
   rintro ⟨g, ts, r⟩ ⟨k1, k2, k3, k4⟩
   simp only at k1 k2 k3 k4
   obtain ⟨g', rfl⟩ : ∃ g', g = g' + 1 := ⟨g - 1, by omega⟩
   have hc := hT g' d r (by omega) hd (by omega) (by omega)
   rw [zGl] at k4
   cases ht : zJz g' d r with
   | none =>
    rw [ht] at k4
    have e2 : zAQ g' d r = { res := .pan xbV } := by unfold zAQ; rw [ht]
    have e : zBf (f + 1) d s = { res := .pan xbV } := by unfold zBf; rw [hE, ← k4]
    rw [e2] at hc
    rw [e]
    try simp (maxSteps := 2000000) only [go_sem, zAW]
    repeat with_reducible refine zAd ?_
    refine zBA (by repeat' constructor) hc ?_
    try simp (maxSteps := 2000000) only [go_sem]
    repeat with_reducible refine zAd ?_
    exact ⟨_, rfl, rfl⟩
   | some tr =>
    obtain ⟨o, r'⟩ := tr
    rw [ht] at k4
    cases o with
    | none =>
     simp only at k4
     have e2 : zAQ g' d r = { res := .tup [.agg (tsV (.mk 0 [] [] 0 0 [])), bv false], io := [bS r'] } := by unfold zAQ; rw [ht]
     have e : zBf (f + 1) d s = { res := .val (.agg (stV (.mk (zE4 s) ts))), io := [bS r'] } := by unfold zBf; rw [hE, ← k4]
     rw [e2] at hc
     rw [e]
     try simp (maxSteps := 2000000) only [go_sem, zAW]
     repeat with_reducible refine zAd ?_
     refine zAR (by repeat' constructor) (hc) ?_
     try simp (maxSteps := 2000000) only [go_sem, zCg]
     repeat with_reducible refine zAd ?_
     refine zAa (by rfl) trivial (fun h5 => ?_) (fun h5 => ?_)
     ·try simp (maxSteps := 2000000) only [go_sem]
      repeat with_reducible refine zAd ?_
      exact zN6 rfl rfl rfl rfl rfl
     ·cases h5
    | some t =>
     simp only at k4
     have e2 : zAQ g' d r = { res := .tup [.agg (tsV t), bv true], io := [bS r'] } := by unfold zAQ; rw [ht]
     have hlen : r'.length + 1 ≤ r.length := by
      have h1 := (zFT g').1 _ _ _ _ ht
      obtain ⟨c, q, e3, _⟩ := zHO t
      rw [h1, e3]
      simp only [List.cons_append, List.length_cons, List.length_append]
      omega
     rw [e2] at hc
     try simp (maxSteps := 2000000) only [go_sem, zAW]
     repeat with_reducible refine zAd ?_
     refine zAR (by repeat' constructor) (hc) ?_
     try simp (maxSteps := 2000000) only [go_sem, zCg, zAW]
     repeat with_reducible refine zAd ?_
     refine zAa (by rfl) trivial (fun h5 => ?_) (fun h5 => ?_)
     ·cases h5
     ·try simp (maxSteps := 2000000) only [go_sem, zAW]
      repeat with_reducible refine zAd ?_
      refine ⟨(g', ts ++ [t], r'), by simp only; omega, ⟨by simp only; omega, by simp only; omega, by simp only [List.length_append, List.length_cons, List.length_nil]; omega, k4⟩, ?_⟩
      simp (maxSteps := 2000000) only [go_sem, zAe, zAj, zAt, zAc]
      all_goals (repeat' (first | exact trivial | exact zAg (by omega) | exact zAf rfl | exact zAr rfl | exact zAk | exact le_refl _ | refine And.intro ?_ ?_))
      all_goals first | exact zAc | exact zAr (by rw [zVs, zCg]) | rfl
end Go.Hx
end
