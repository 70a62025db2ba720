/-
  Walks of functions of the program over an abstract layer, and the laws that they use: each contract says what the function computes, for every input that its conditions let by. No other condition.
-/
import Derived.Test.YtjnagiaooecklabGreatDoorG19
import Derived.Test.YtjnagiaooecklabGreatDoorG12
import Derived.Test.YtjnagiaooecklabGreatDoorG8
import Derived.Test.YtjnagiaooecklabGreatDoorG17
set_option linter.all false
section
/-
 Lists of paths as text; the strict reader: what it takes is what is printed. Plain Lean. No condition.
-/
set_option maxRecDepth 100000
set_option linter.unusedSimpArgs false
namespace Go.Hx
variable [Glob]
def zKl (k : Int) : Bys := if k = 4 then [61] else if k = 5 then [94, 61] else if k = 6 then [36, 61] else if k = 7 then [42, 61] else [126, 61]
def zOd (n : Int) : Bys := if n = 1 then [32] else if n = 2 then [32, 62, 32] else if n = 3 then [32, 43, 32] else if n = 4 then [32, 126, 32] else []
def zSC (k : Int) : Bys := if k = 9 then [58, 110, 116, 104, 40] else if k = 10 then [58, 108, 97, 115, 116, 40] else if k = 13 then [58, 110, 111, 116, 40] else if k = 14 then [58, 105, 115, 40] else [58, 104, 97, 115, 40]
mutual
def zRV : Ts → Bys
 | .mk k n v a b l =>
  if k = 1 then 46 :: n else if k = 2 then 35 :: n else if k = 3 then 91 :: (n ++ [93])
  else if 4 ≤ k ∧ k ≤ 8 then 91 :: (n ++ (zKl k ++ 34 :: (v ++ [34, 93])))
  else if k = 9 ∨ k = 10 then zSC k ++ (zBK a b ++ [41])
  else if k = 11 then [58, 101, 109, 112, 116, 121] else if k = 12 then [58, 114, 111, 111, 116]
  else zSC k ++ (zBz l true ++ [41])
def zB6 : List Ts → Bys
 | [] => []
 | t :: r => zRV t ++ zB6 r
def zM1 : St → Bys
 | .mk tag l => (if tag = [] then [42] else tag) ++ zB6 l
def zBm : List St → List Int → Bool → Bys
 | [], _, _ => []
 | x :: r, lk, true => zM1 x ++ zBm r lk false
 | x :: r, lk, false => zOd (lk.headD 0) ++ zM1 x ++ zBm r lk.tail false
def zNz : Pt → Bys
 | .mk st lk => zBm st lk true
def zBz : List Pt → Bool → Bys
 | [], _ => []
 | p :: r, b => (if b then [] else [44, 32]) ++ zNz p ++ zBz r false
end
abbrev zPT (l : List Pt) : Bys := zBz l true
theorem zDG (k : Int) (n v : Bys) (a b : Int) (l : List Pt) : zRV (.mk k n v a b l) = (if k = 1 then 46 :: n else if k = 2 then 35 :: n else if k = 3 then 91 :: (n ++ [93])
  else if 4 ≤ k ∧ k ≤ 8 then 91 :: (n ++ (zKl k ++ 34 :: (v ++ [34, 93])))
  else if k = 9 ∨ k = 10 then zSC k ++ (zBK a b ++ [41])
  else if k = 11 then [58, 101, 109, 112, 116, 121] else if k = 12 then [58, 114, 111, 111, 116]
  else zSC k ++ (zBz l true ++ [41])) := by rw [zRV]
def kd (s : Bys) : Int := if zAn s [61, 34] then 4 else if zAn s [94, 61, 34] then 5 else if zAn s [36, 61, 34] then 6 else if zAn s [42, 61, 34] then 7 else if zAn s [126, 61, 34] then 8 else 3
def atS (s : Bys) : Bys := zAs (nmR s) (zKl (kd (nmR s)) ++ [34])
def zTT (s : Bys) : Option (Ts × Bys) :=
 if kd (nmR s) = 3 then (if zAn (nmR s) [93] then some (.mk 3 (zEC s) [] 0 0 [], zAs (nmR s) [93]) else none)
 else if (Lib.cut (atS s) [34]).2.2 && zAn (Lib.cut (atS s) [34]).2.1 [93] then some (.mk (kd (nmR s)) (zEC s) (Lib.cut (atS s) [34]).1 0 0 [], zAs (Lib.cut (atS s) [34]).2.1 [93]) else none
def zFs (w : Bys) : Int := if w = [110, 116, 104] then 9 else if w = [108, 97, 115, 116] then 10 else if w = [110, 111, 116] then 13 else if w = [105, 115] then 14 else if w = [104, 97, 115] then 15 else 0
def zDe (s : Bys) : Int := if zAn s [32, 62, 32] then 2 else if zAn s [32, 43, 32] then 3 else if zAn s [32, 126, 32] then 4 else if zAn s [32] then 1 else 0
def zRW (g : Bys → Option (List Pt × Bys)) (k : Int) (s : Bys) : Option (Option Ts × Bys) :=
 if k = 0 then none
 else if zFr k then (match g s with
  | some (l, r) => if zAn r [41] then some (some (.mk k [] [] 0 0 l), zAs r [41]) else none
  | none => none)
 else if (Lib.cut s [41]).2.2 && zEQ (Lib.cut s [41]).1 then some (some (.mk k [] [] (zYs (Lib.cut s [41]).1) (zYt (Lib.cut s [41]).1) []), (Lib.cut s [41]).2.1)
 else none
def zSD (g : Bys → Option (List Pt × Bys)) (s : Bys) : Option (Option Ts × Bys) :=
 if zEC s = [101, 109, 112, 116, 121] then some (some (.mk 11 [] [] 0 0 []), nmR s)
 else if zEC s = [114, 111, 111, 116] then some (some (.mk 12 [] [] 0 0 []), nmR s)
 else if zAn (nmR s) [40] = false then none
 else zRW g (zFs (zEC s)) (zAs (nmR s) [40])
mutual
def zIX : Nat → Nat → Bys → Option (Option Ts × Bys)
 | 0, _, _ => none
 | f + 1, deep, s =>
  if zAn s [46] then some (some (.mk 1 (zEC (zAs s [46])) [] 0 0 []), nmR (zAs s [46]))
  else if zAn s [35] then some (some (.mk 2 (zEC (zAs s [35])) [] 0 0 []), nmR (zAs s [35]))
  else if zAn s [91] then (match zTT (zAs s [91]) with | some (t, r) => some (some t, r) | none => none)
  else if zAn s [58] = false then some (none, s)
  else zSD (zQH f (deep + 1)) (zAs s [58])
def zFS : Nat → Nat → Bys → List Ts → Option (List Ts × Bys)
 | 0, _, _, _ => none
 | f + 1, deep, s, l => match zIX f deep s with
  | some (some t, r) => zFS f deep r (l ++ [t])
  | some (none, r) => some (l, r)
  | none => none
def zPU : Nat → Nat → Bys → Option (St × Bys)
 | 0, _, _ => none
 | f + 1, deep, s =>
  if zEC s = [] then (if zAn (nmR s) [42] then (match zFS f deep (zAs (nmR s) [42]) [] with | some (l, r) => some (.mk [] l, r) | none => none) else none)
  else (match zFS f deep (nmR s) [] with | some (l, r) => some (.mk (zEC s) l, r) | none => none)
def zMr : Nat → Nat → Bys → List St → List Int → Option (Pt × Bys)
 | 0, _, _, _, _ => none
 | f + 1, deep, s, st, lk => if zDe s = 0 then some (.mk st lk, s) else (match zPU f deep (zAs s (zOd (zDe s))) with
  | some (x, r) => zMr f deep r (st ++ [x]) (lk ++ [zDe s])
  | none => none)
def zMs : Nat → Nat → Bys → List Pt → Option (List Pt × Bys)
 | 0, _, _, _ => none
 | f + 1, deep, s, l => match zPU f deep s with
  | some (x, r) => (match zMr f deep r [x] [] with
   | some (p, r2) => if zAn r2 [44, 32] then zMs f deep (zAs r2 [44, 32]) (l ++ [p]) else some (l ++ [p], r2)
   | none => none)
  | none => none
def zQH : Nat → Nat → Bys → Option (List Pt × Bys)
 | 0, _, _ => none
 | f + 1, deep, s => if 3 < deep then none else zMs f deep s []
end
def zID (s : Bys) : Option (List Pt) := match zQH (4 * s.length + 16) 1 s with
 | some (l, r) => if r = [] ∧ zBB l = 0 then some l else none
 | none => none
theorem yCC {s : Bys} (h : kd s ≠ 3) : s = zKl (kd s) ++ 34 :: zAs s (zKl (kd s) ++ [34]) ∧ 4 ≤ kd s ∧ kd s ≤ 8 := by
 unfold kd at h ⊢
 split
 ·rename_i h1; exact ⟨zD7 h1, by decide, by decide⟩
 ·split
  ·rename_i h1; exact ⟨zD7 h1, by decide, by decide⟩
  ·split
   ·rename_i h1; exact ⟨zD7 h1, by decide, by decide⟩
   ·split
    ·rename_i h1; exact ⟨zD7 h1, by decide, by decide⟩
    ·split
     ·rename_i h1; exact ⟨zD7 h1, by decide, by decide⟩
     ·simp_all
theorem zWZ {s : Bys} {c : UInt8} (h : (Lib.cut s [c]).2.2 = true) : s = (Lib.cut s [c]).1 ++ c :: (Lib.cut s [c]).2.1 := by
 unfold Lib.cut at h ⊢
 split at h
 ·rename_i h0
  rw [if_pos h0]
  rcases Lib.index_spec s [c] with ⟨e, _⟩ | ⟨i, e, hi, ho, _⟩
  ·rw [e] at h0; omega
  ·rw [e]
   simp only [Int.toNat_natCast]
   unfold Lib.occAt at ho
   have hd : ∃ l, s.drop i = c :: l := by
    match hq : s.drop i, ho with
    | [], ho => simp [List.isPrefixOf] at ho
    | a :: l, ho =>
     simp [List.isPrefixOf] at ho
     exact ⟨l, by rw [ho]⟩
   obtain ⟨l, hl⟩ := hd
   have h2 : s.drop (i + ([c] : Bys).length) = l := by
    have : s.drop (i + 1) = (s.drop i).drop 1 := by rw [List.drop_drop]
    show s.drop (i + 1) = l
    rw [this, hl]; rfl
   rw [h2, ← hl, List.take_append_drop]
 ·cases h
theorem zW0 {s : Bys} {t : Ts} {r : Bys} (h : zTT s = some (t, r)) : 91 :: s = zRV t ++ r := by
 unfold zTT at h
 split at h
 ·split at h
  ·rename_i hk hs
   injection h with h
   injection h with h1 h2
   rw [← h1, ← h2]
   rw [zDG]
   rw [if_neg (by decide), if_neg (by decide), if_pos rfl]
   simp only [List.cons_append, List.append_assoc, List.nil_append]
   rw [← zMk hs, ← zPN]
  ·cases h
 ·rename_i hk
  split at h
  ·rename_i hs
   simp only [Bool.and_eq_true] at hs
   injection h with h
   injection h with h1 h2
   obtain ⟨e1, e2, e3⟩ := yCC hk
   have e4 := zWZ hs.1
   rw [← h1, ← h2]
   rw [zDG]
   rw [if_neg (by omega), if_neg (by omega), if_neg (by omega), if_pos ⟨e2, e3⟩]
   simp only [List.cons_append, List.append_assoc, List.nil_append]
   rw [← zMk hs.2, ← e4]
   unfold atS
   rw [← e1, ← zPN]
  ·cases h
theorem zOe {w : Bys} (h : zFs w ≠ 0) : zSC (zFs w) = 58 :: (w ++ [40]) ∧ (zFs w = 9 ∨ zFs w = 10 ∨ zFs w = 13 ∨ zFs w = 14 ∨ zFs w = 15) := by
 unfold zFs at h ⊢
 split
 ·rename_i e; subst e; exact ⟨rfl, .inl rfl⟩
 ·split
  ·rename_i e; subst e; exact ⟨rfl, .inr (.inl rfl)⟩
  ·split
   ·rename_i e; subst e; exact ⟨rfl, .inr (.inr (.inl rfl))⟩
   ·split
    ·rename_i e; subst e; exact ⟨rfl, .inr (.inr (.inr (.inl rfl)))⟩
    ·split
     ·rename_i e; subst e; exact ⟨rfl, .inr (.inr (.inr (.inr rfl)))⟩
     ·simp_all
theorem zVM {s : Bys} (h : zDe s ≠ 0) : s = zOd (zDe s) ++ zAs s (zOd (zDe s)) ∧ 1 ≤ zDe s ∧ zDe s ≤ 4 := by
 unfold zDe at h ⊢
 split
 ·rename_i h1; exact ⟨zD7 h1, by decide, by decide⟩
 ·split
  ·rename_i h1; exact ⟨zD7 h1, by decide, by decide⟩
  ·split
   ·rename_i h1; exact ⟨zD7 h1, by decide, by decide⟩
   ·split
    ·rename_i h1; exact ⟨zD7 h1, by decide, by decide⟩
    ·simp_all
theorem zW1 {s : Bys} (h : zEQ s = true) : zBK (zYs s) (zYt s) = s := by
 unfold zEQ at h
 simp only [decide_eq_true_eq] at h
 exact h.2
theorem zW2 {g : Bys → Option (List Pt × Bys)} (hg : ∀ s l r, g s = some (l, r) → s = zBz l true ++ r) {k : Int} {s : Bys} {o : Option Ts} {r : Bys} (hk : k = 9 ∨ k = 10 ∨ k = 13 ∨ k = 14 ∨ k = 15) (h : zRW g k s = some (o, r)) : (∀ t, o = some t → zSC k ++ s = zRV t ++ r) ∧ o ≠ none := by
 unfold zRW at h
 rw [if_neg (by omega)] at h
 split at h
 ·rename_i hl
  have hk2 : k = 13 ∨ k = 14 ∨ k = 15 := by
   unfold zFr at hl
   simp only [decide_eq_true_eq] at hl
   omega
  split at h
  ·rename_i l' r' hL
   split at h
   ·rename_i hc
    injection h with h; injection h with h1 h2
    refine ⟨fun t ht => ?_, by rw [← h1]; simp⟩
    rw [← h1] at ht
    injection ht with ht
    have e3 := hg _ _ _ hL
    rw [← ht, ← h2, zDG]
    rw [if_neg (by omega), if_neg (by omega), if_neg (by omega), if_neg (by omega), if_neg (by omega), if_neg (by omega), if_neg (by omega)]
    simp only [List.append_assoc, List.cons_append, List.nil_append]
    rw [← zMk hc, ← e3]
   ·cases h
  ·cases h
 ·rename_i hl
  split at h
  ·rename_i hc
   simp only [Bool.and_eq_true] at hc
   have hk2 : k = 9 ∨ k = 10 := by
    unfold zFr at hl
    simp only [decide_eq_true_eq] at hl
    omega
   injection h with h; injection h with h1 h2
   refine ⟨fun t ht => ?_, by rw [← h1]; simp⟩
   rw [← h1] at ht
   injection ht with ht
   rw [← ht, ← h2, zDG]
   rw [if_neg (by omega), if_neg (by omega), if_neg (by omega), if_neg (by omega), if_pos hk2, zW1 hc.2]
   simp only [List.append_assoc, List.cons_append, List.nil_append]
   rw [← zWZ hc.1]
  ·cases h
theorem zRX {g : Bys → Option (List Pt × Bys)} (hg : ∀ s l r, g s = some (l, r) → s = zBz l true ++ r) {s : Bys} {o : Option Ts} {r : Bys} (h : zSD g s = some (o, r)) : (∀ t, o = some t → 58 :: s = zRV t ++ r) ∧ o ≠ none := by
 unfold zSD at h
 split at h
 ·rename_i hw
  injection h with h; injection h with h1 h2
  refine ⟨fun t ht => ?_, by rw [← h1]; simp⟩
  rw [← h1] at ht
  injection ht with ht
  rw [← ht, ← h2]
  have e1 := zPN s
  rw [hw] at e1
  conv => lhs; rw [e1]
  rfl
 ·split at h
  ·rename_i hw
   injection h with h; injection h with h1 h2
   refine ⟨fun t ht => ?_, by rw [← h1]; simp⟩
   rw [← h1] at ht
   injection ht with ht
   rw [← ht, ← h2]
   have e1 := zPN s
   rw [hw] at e1
   conv => lhs; rw [e1]
   rfl
  ·split at h
   ·cases h
   ·rename_i hp
    have hp : zAn (nmR s) [40] = true := by simpa using hp
    by_cases hk : zFs (zEC s) = 0
    ·rw [hk] at h
     simp [zRW] at h
    ·obtain ⟨k1, k2⟩ := zOe hk
     obtain ⟨a, b⟩ := zW2 hg k2 h
     refine ⟨fun t ht => ?_, b⟩
     rw [← a t ht, k1]
     simp only [List.cons_append, List.append_assoc, List.nil_append]
     rw [← zMk hp, ← zPN]
theorem zD8 : ∀ f : Nat,
  (∀ deep s t r, zIX f deep s = some (some t, r) → s = zRV t ++ r) ∧
  (∀ deep s r, zIX f deep s = some (none, r) → r = s) ∧
  (∀ deep s l l' r, zFS f deep s l = some (l', r) → ∃ m, l' = l ++ m ∧ s = zB6 m ++ r) ∧
  (∀ deep s x r, zPU f deep s = some (x, r) → s = zM1 x ++ r) ∧
  (∀ deep s st lk p r, zMr f deep s st lk = some (p, r) → ∃ st' lk', p = .mk (st ++ st') (lk ++ lk') ∧ s = zBm st' lk' false ++ r) ∧
  (∀ deep s l l' r, zMs f deep s l = some (l', r) → ∃ p m, l' = l ++ p :: m ∧ s = zNz p ++ zBz m false ++ r) ∧
  (∀ deep s l r, zQH f deep s = some (l, r) → s = zBz l true ++ r)
 | 0 => by
  refine ⟨?_, ?_, ?_, ?_, ?_, ?_, ?_⟩ <;> intros <;> rename_i h <;> simp [zIX, zFS, zPU, zMr, zMs, zQH] at h
 | f + 1 => by
  obtain ⟨i1, i2, i3, i4, i5, i6, i7⟩ := zD8 f
  refine ⟨?_, ?_, ?_, ?_, ?_, ?_, ?_⟩
  ·intro deep s t r h
   rw [zIX] at h
   split at h
   ·rename_i hs
    injection h with h; injection h with h1 h2; injection h1 with h1
    rw [← h1, ← h2]
    rw [zDG]
    rw [if_pos rfl, List.cons_append, ← zPN]
    exact zMk hs
   ·split at h
    ·rename_i hs
     injection h with h; injection h with h1 h2; injection h1 with h1
     rw [← h1, ← h2]
     rw [zDG]
     rw [if_neg (by decide), if_pos rfl, List.cons_append, ← zPN]
     exact zMk hs
    ·split at h
     ·rename_i hs
      split at h
      ·rename_i t' r' ha
       injection h with h; injection h with h1 h2; injection h1 with h1
       rw [← h1, ← h2, ← zW0 ha]
       exact zMk hs
      ·cases h
     ·split at h
      ·injection h with h; injection h with h1 h2; cases h1
      ·rename_i hs
       have hs : zAn s [58] = true := by simpa using hs
       rw [zMk hs]
       exact (zRX (fun s l r => i7 _ s l r) h).1 t rfl
  ·intro deep s r h
   rw [zIX] at h
   split at h
   ·injection h with h; injection h with h1 h2; cases h1
   ·split at h
    ·injection h with h; injection h with h1 h2; cases h1
    ·split at h
     ·split at h
      ·injection h with h; injection h with h1 h2; cases h1
      ·cases h
     ·split at h
      ·injection h with h; injection h with h1 h2; exact h2.symm
      ·exact ((zRX (fun s l r => i7 _ s l r) h).2 rfl).elim
  ·intro deep s l l' r h
   simp only [zFS] at h
   split at h
   ·rename_i t r' ht
    obtain ⟨m, e1, e2⟩ := i3 _ _ _ _ _ h
    refine ⟨t :: m, by rw [e1]; simp, ?_⟩
    simp only [zB6, List.append_assoc]
    rw [← e2]
    exact i1 _ _ _ _ ht
   ·rename_i r' ht
    injection h with h; injection h with h1 h2
    refine ⟨[], by simp [h1], ?_⟩
    rw [← h2, i2 _ _ _ ht]; rfl
   ·cases h
  ·intro deep s x r h
   simp only [zPU] at h
   split at h
   ·rename_i hn
    split at h
    ·rename_i hs
     split at h
     ·rename_i l r' ht
      injection h with h; injection h with h1 h2
      obtain ⟨m, e1, e2⟩ := i3 _ _ _ _ _ ht
      rw [List.nil_append] at e1
      rw [← h1, ← h2]
      simp only [zM1, if_true, List.append_assoc]
      rw [e1, ← e2]
      have e3 := zPN s
      rw [hn, List.nil_append] at e3
      conv => lhs; rw [e3]
      exact zMk hs
     ·cases h
    ·cases h
   ·rename_i hn
    split at h
    ·rename_i l r' ht
     injection h with h; injection h with h1 h2
     obtain ⟨m, e1, e2⟩ := i3 _ _ _ _ _ ht
     rw [List.nil_append] at e1
     rw [← h1, ← h2]
     simp only [zM1, List.append_assoc]
     rw [if_neg hn, e1, ← e2]
     exact zPN s
    ·cases h
  ·intro deep s st lk p r h
   simp only [zMr] at h
   split at h
   ·injection h with h; injection h with h1 h2
    exact ⟨[], [], by simp [h1], by rw [← h2]; rfl⟩
   ·rename_i hl
    split at h
    ·rename_i x r' hx
     obtain ⟨st', lk', e1, e2⟩ := i5 _ _ _ _ _ _ h
     refine ⟨x :: st', zDe s :: lk', by rw [e1]; simp, ?_⟩
     simp only [zBm, List.headD_cons, List.tail_cons, List.append_assoc]
     rw [← e2, ← i4 _ _ _ _ hx]
     exact (zVM hl).1
    ·cases h
  ·intro deep s l l' r h
   simp only [zMs] at h
   split at h
   ·rename_i x r1 hx
    split at h
    ·rename_i p r2 hp
     obtain ⟨st', lk', e1, e2⟩ := i5 _ _ _ _ _ _ hp
     have e3 : s = zNz p ++ r2 := by
      rw [e1]
      simp only [List.cons_append, List.nil_append, zNz, zBm, List.append_assoc]
      rw [← e2]
      exact i4 _ _ _ _ hx
     split at h
     ·rename_i hc
      obtain ⟨p', m, e4, e5⟩ := i6 _ _ _ _ _ h
      refine ⟨p, p' :: m, by rw [e4]; simp, ?_⟩
      simp only [zBz, List.append_assoc, Bool.false_eq_true, if_false]
      rw [List.append_assoc] at e5
      rw [← e5]
      have := zD7 hc
      rw [← this]
      exact e3
     ·injection h with h; injection h with h1 h2
      exact ⟨p, [], h1.symm, by rw [← h2]; simpa [zBz] using e3⟩
    ·cases h
   ·cases h
  ·intro deep s l r h
   simp only [zQH] at h
   split at h
   ·cases h
   ·obtain ⟨p, m, e1, e2⟩ := i6 _ _ _ _ _ h
    rw [List.nil_append] at e1
    rw [e1]
    simp only [zBz, if_true, List.nil_append, List.append_assoc]
    rw [List.append_assoc] at e2
    exact e2
theorem zVN {s : Bys} {l : List Pt} (h : zID s = some l) : zPT l = s ∧ zBB l = 0 := by
 unfold zID at h
 split at h
 ·rename_i l' r hL
  split at h
  ·rename_i hc
   injection h with h
   subst h
   have := (zD8 _).2.2.2.2.2.2 _ _ _ _ hL
   rw [hc.1, List.append_nil] at this
   exact ⟨this.symm, hc.2⟩
  ·cases h
 ·cases h
end Go.Hx
end

section
/-
 Lists of paths as text: the strict reader takes the text of a right list. Plain Lean. No condition.
-/
set_option maxRecDepth 100000
set_option linter.unusedSimpArgs false
namespace Go.Hx
variable [Glob]
def pB (c : UInt8) : Bool := c == 41
def pL (c : UInt8) : Bool := c == 44 || pB c
def pE (c : UInt8) : Bool := c == 32 || pL c
def pT (c : UInt8) : Bool := c == 46 || c == 35 || c == 91 || c == 58 || pE c
theorem yEn {c : UInt8} (h : pB c = true) : pL c = true := by simp [pL, h]
theorem yEf {c : UInt8} (h : pL c = true) : pE c = true := by simp [pE, h]
theorem yEo {c : UInt8} (h : pE c = true) : pT c = true := by simp [pT, h]
theorem yAG {c : UInt8} (h : pT c = true) : nameCh c = false := by
 simp only [pT, pE, pL, pB, Bool.or_eq_true, beq_iff_eq] at h
 rcases h with (((rfl | rfl) | rfl) | rfl) | rfl | rfl | rfl <;> rfl
theorem zPV {n r : Bys} (hn : n.all nameCh = true) (hr : ∀ c l, r = c :: l → nameCh c = false) : zEC (n ++ r) = n ∧ nmR (n ++ r) = r := zWQ hn hr
theorem yCD {n r : Bys} (hn : n.all nameCh = true) (hr : Hd pT r) : zEC (n ++ r) = n ∧ nmR (n ++ r) = r := zWQ hn fun c l e => yAG (hr c l e)
theorem zW4 {c : UInt8} : ∀ {v : Bys} (r : Bys), (∀ x ∈ v, x ≠ c) → Lib.index (v ++ c :: r) [c] = v.length
 | [], r, _ => by simp [Lib.index, List.isPrefixOf]
 | x :: v, r, h => by
  have hc := h x List.mem_cons_self
  have ih := zW4 (c := c) (v := v) r (fun y hy => h y (List.mem_cons_of_mem _ hy))
  have h1 : ([c] : Bys).isPrefixOf (x :: (v ++ c :: r)) = false := by simp [List.isPrefixOf, Ne.symm hc]
  simp only [List.cons_append, Lib.index, h1, Bool.false_eq_true, if_false, ih, List.length_cons]
  rw [if_neg (by simp)]
  rfl
theorem zUK {c : UInt8} {v : Bys} (r : Bys) (h : ∀ x ∈ v, x ≠ c) : Lib.cut (v ++ c :: r) [c] = (v, r, true) := by
 unfold Lib.cut
 rw [zW4 r h, if_pos (by omega)]
 simp
theorem zW5 {c : UInt8} (hd : zPR c = false) (hm : c ≠ 45) (a : Int) : ∀ x ∈ Lib.itoa a, x ≠ c := by
 intro x hx
 have hdd : ∀ u : Nat, ∀ x ∈ Lib.decDigits u, x ≠ c := by
  rintro u x hx rfl
  have := zWW u _ hx
  rw [hd] at this; cases this
 by_cases h : a < 0
 ·rw [zYu h] at hx
  rcases List.mem_cons.1 hx with rfl | hx
  ·exact Ne.symm hm
  ·have e : Lib.itoa (-a) = Lib.decDigits (-a).toNat := by
    unfold Lib.itoa
    rw [if_neg (by omega)]
   rw [e] at hx
   exact hdd _ _ hx
 ·have e : Lib.itoa a = Lib.decDigits a.toNat := by
   unfold Lib.itoa
   rw [if_neg h]
  rw [e] at hx
  exact hdd _ _ hx
theorem yCE (a b : Int) : ∀ x ∈ zBK a b, x ≠ 41 := by
 intro x hx
 unfold zBK at hx
 simp only [List.mem_append, List.mem_singleton] at hx
 rcases hx with (hx | rfl) | hx | hx
 ·exact zW5 rfl (by decide) a x hx
 ·decide
 ·split at hx
  ·rw [List.mem_singleton] at hx; subst hx; decide
  ·cases hx
 ·exact zW5 rfl (by decide) b x hx
theorem zMt {k : Int} (h : 4 ≤ k ∧ k ≤ 8) : k = 4 ∨ k = 5 ∨ k = 6 ∨ k = 7 ∨ k = 8 := by omega
theorem yDY {k : Int} (h : 4 ≤ k ∧ k ≤ 8) (r : Bys) : kd (zKl k ++ 34 :: r) = k ∧ zAs (zKl k ++ 34 :: r) (zKl k ++ [34]) = r ∧ (∀ c l, zKl k ++ 34 :: r = c :: l → nameCh c = false) := by
 have e : ∀ k, zKl k ++ 34 :: r = (zKl k ++ [34]) ++ r := fun k => by simp
 refine ⟨?_, by rw [e]; exact (zCx _ _).2, ?_⟩
 ·rcases zMt h with rfl | rfl | rfl | rfl | rfl
  ·unfold kd
   rw [if_pos (by rw [e]; exact (zCx _ _).1)]
  ·unfold kd
   rw [if_neg (by show ¬ zAn (94 :: _) (61 :: _) = true; rw [zBC rfl]; simp), if_pos (by rw [e]; exact (zCx _ _).1)]
  ·unfold kd
   rw [if_neg (by show ¬ zAn (36 :: _) (61 :: _) = true; rw [zBC rfl]; simp), if_neg (by show ¬ zAn (36 :: _) (94 :: _) = true; rw [zBC rfl]; simp), if_pos (by rw [e]; exact (zCx _ _).1)]
  ·unfold kd
   rw [if_neg (by show ¬ zAn (42 :: _) (61 :: _) = true; rw [zBC rfl]; simp), if_neg (by show ¬ zAn (42 :: _) (94 :: _) = true; rw [zBC rfl]; simp), if_neg (by show ¬ zAn (42 :: _) (36 :: _) = true; rw [zBC rfl]; simp), if_pos (by rw [e]; exact (zCx _ _).1)]
  ·unfold kd
   rw [if_neg (by show ¬ zAn (126 :: _) (61 :: _) = true; rw [zBC rfl]; simp), if_neg (by show ¬ zAn (126 :: _) (94 :: _) = true; rw [zBC rfl]; simp), if_neg (by show ¬ zAn (126 :: _) (36 :: _) = true; rw [zBC rfl]; simp), if_neg (by show ¬ zAn (126 :: _) (42 :: _) = true; rw [zBC rfl]; simp), if_pos (by rw [e]; exact (zCx _ _).1)]
 ·intro c l q
  rcases zMt h with rfl | rfl | rfl | rfl | rfl <;> (injection q with q _; rw [← q]; rfl)
theorem yAH {c : UInt8} {r : Bys} (h : c = 93) : kd (c :: r) = 3 := by
 subst h
 unfold kd
 rw [if_neg (by rw [zBC rfl]; simp), if_neg (by rw [zBC rfl]; simp), if_neg (by rw [zBC rfl]; simp), if_neg (by rw [zBC rfl]; simp), if_neg (by rw [zBC rfl]; simp)]
theorem zVO {n r : Bys} (hn : zDi n = true) : zTT (n ++ 93 :: r) = some (.mk 3 n [] 0 0 [], r) := by
 have h := zPV (r := 93 :: r) (zF8 hn) (fun c l e => by injection e with e _; rw [← e]; rfl)
 unfold zTT
 rw [h.1, h.2, if_pos (yAH rfl), (zA1 _ _).1, (zA1 _ _).2, if_pos rfl]
theorem zW6 {k : Int} {n v r : Bys} (hk : 4 ≤ k ∧ k ≤ 8) (hn : zDi n = true) (hv : zFc v = true) : zTT (n ++ (zKl k ++ 34 :: (v ++ 34 :: 93 :: r))) = some (.mk k n v 0 0 [], r) := by
 obtain ⟨k1, k2, k3⟩ := yDY hk (v ++ 34 :: 93 :: r)
 have h := zPV (r := zKl k ++ 34 :: (v ++ 34 :: 93 :: r)) (zF8 hn) k3
 unfold zTT atS
 rw [h.1, h.2, k1, if_neg (by omega), k2, zUK _ (yCs hv)]
 simp only
 rw [(zA1 _ _).1, (zA1 _ _).2]
 rfl
theorem zW7 {w r : Bys} (hw : w.all nameCh = true) : zEC (w ++ 40 :: r) = w ∧ nmR (w ++ 40 :: r) = 40 :: r := zPV hw fun c l e => by injection e with e _; rw [← e]; rfl
theorem zRY {g : Bys → Option (List Pt × Bys)} {k : Int} (hk : k = 9 ∨ k = 10 ∨ k = 13 ∨ k = 14 ∨ k = 15) (s : Bys) : ∃ w, zSC k = 58 :: (w ++ [40]) ∧ zSD g (w ++ 40 :: s) = zRW g k s := by
 have key : ∀ w : Bys, w.all nameCh = true → w ≠ [101, 109, 112, 116, 121] → w ≠ [114, 111, 111, 116] → zFs w = k → zSD g (w ++ 40 :: s) = zRW g k s := by
  intro w h1 h2 h3 h4
  unfold zSD
  rw [(zW7 h1).1, (zW7 h1).2, if_neg h2, if_neg h3, (zA1 _ _).1, (zA1 _ _).2, if_neg (by simp), h4]
 rcases hk with rfl | rfl | rfl | rfl | rfl
 ·exact ⟨[110, 116, 104], rfl, key _ rfl (by decide) (by decide) rfl⟩
 ·exact ⟨[108, 97, 115, 116], rfl, key _ rfl (by decide) (by decide) rfl⟩
 ·exact ⟨[110, 111, 116], rfl, key _ rfl (by decide) (by decide) rfl⟩
 ·exact ⟨[105, 115], rfl, key _ rfl (by decide) (by decide) rfl⟩
 ·exact ⟨[104, 97, 115], rfl, key _ rfl (by decide) (by decide) rfl⟩
theorem zHo (t : Ts) : ∃ c l, zRV t = c :: l ∧ (c = 46 ∨ c = 35 ∨ c = 91 ∨ c = 58) := by
 obtain ⟨k, n, v, a, b, l⟩ := t
 have ho : ∀ k, ∃ l, zSC k = 58 :: l := by
  intro k
  unfold zSC
  split
  ·exact ⟨_, rfl⟩
  ·split
   ·exact ⟨_, rfl⟩
   ·split
    ·exact ⟨_, rfl⟩
    ·split <;> exact ⟨_, rfl⟩
 obtain ⟨q, hq⟩ := ho k
 rw [zDG]
 split
 ·exact ⟨_, _, rfl, .inl rfl⟩
 ·split
  ·exact ⟨_, _, rfl, .inr (.inl rfl)⟩
  ·split
   ·exact ⟨_, _, rfl, .inr (.inr (.inl rfl))⟩
   ·split
    ·exact ⟨_, _, rfl, .inr (.inr (.inl rfl))⟩
    ·split
     ·rw [hq]; exact ⟨_, _, rfl, .inr (.inr (.inr rfl))⟩
     ·split
      ·exact ⟨_, _, rfl, .inr (.inr (.inr rfl))⟩
      ·split
       ·exact ⟨_, _, rfl, .inr (.inr (.inr rfl))⟩
       ·rw [hq]; exact ⟨_, _, rfl, .inr (.inr (.inr rfl))⟩
theorem zW8 (m : List Ts) {r : Bys} (hr : Hd pE r) : Hd pT (zB6 m ++ r) := by
 cases m with
 | nil => exact hr.mono fun _ => yEo
 | cons t m =>
  obtain ⟨c, l, e, hc⟩ := zHo t
  simp only [zB6, e, List.cons_append]
  refine Hd.cons ?_
  rcases hc with rfl | rfl | rfl | rfl <;> rfl
theorem zYy {x : St} {d : Nat} (h : GS x d) (r : Bys) : ∃ c l, zM1 x ++ r = c :: l ∧ (c = 42 ∨ nameCh c = true) := by
 obtain ⟨tag, l⟩ := x
 obtain ⟨_, h2, _⟩ := h.parts
 simp only [zM1]
 rcases h2 with rfl | h2
 ·exact ⟨_, _, rfl, .inl rfl⟩
 ·have hne := zMl h2
  rw [if_neg hne]
  cases tag with
  | nil => exact (hne rfl).elim
  | cons c tag =>
   have := zF8 h2
   simp only [List.all_cons, Bool.and_eq_true] at this
   exact ⟨_, _, rfl, .inr this.1⟩
theorem zYz {n : Int} (h : 1 ≤ n ∧ n ≤ 4) {x : St} {d : Nat} (hx : GS x d) (r : Bys) : zDe (zOd n ++ (zM1 x ++ r)) = n ∧ zAs (zOd n ++ (zM1 x ++ r)) (zOd n) = zM1 x ++ r := by
 refine ⟨?_, (zCx _ _).2⟩
 obtain ⟨c, l, e, hc⟩ := zYy hx r
 have h4 : n = 1 ∨ n = 2 ∨ n = 3 ∨ n = 4 := by omega
 rcases h4 with rfl | rfl | rfl | rfl
 ·rw [e]
  have hne : ∀ q : UInt8, nameCh q = false → q ≠ 42 → (c == q) = false := by
   intro q h1 h2
   rw [beq_eq_false_iff_ne]
   rintro rfl
   rcases hc with rfl | hc
   ·exact h2 rfl
   ·rw [h1] at hc; cases hc
  unfold zDe
  show (if zAn (32 :: c :: l) (32 :: 62 :: [32]) = true then _ else _) = _
  rw [if_neg (by rw [zEP (hne 62 rfl (by decide))]; simp)]
  show (if zAn (32 :: c :: l) (32 :: 43 :: [32]) = true then _ else _) = _
  rw [if_neg (by rw [zEP (hne 43 rfl (by decide))]; simp)]
  show (if zAn (32 :: c :: l) (32 :: 126 :: [32]) = true then _ else _) = _
  rw [if_neg (by rw [zEP (hne 126 rfl (by decide))]; simp)]
  show (if zAn (32 :: c :: l) [32] = true then _ else _) = _
  rw [(zA1 _ _).1]; rfl
 ·unfold zDe
  exact if_pos (zCx [32, 62, 32] _).1
 ·unfold zDe
  rw [if_neg (by show ¬ zAn (32 :: 43 :: _) (32 :: 62 :: _) = true; rw [zEP rfl]; simp)]
  exact if_pos (zCx [32, 43, 32] _).1
 ·unfold zDe
  rw [if_neg (by show ¬ zAn (32 :: 126 :: _) (32 :: 62 :: _) = true; rw [zEP rfl]; simp), if_neg (by show ¬ zAn (32 :: 126 :: _) (32 :: 43 :: _) = true; rw [zEP rfl]; simp)]
  exact if_pos (zCx [32, 126, 32] _).1
theorem zVP {r : Bys} (h : Hd pL r) : zDe r = 0 := by
 unfold zDe
 rw [if_neg (by rw [zMm h rfl]; simp), if_neg (by rw [zMm h rfl]; simp), if_neg (by rw [zMm h rfl]; simp), if_neg (by rw [zMm h rfl]; simp)]
end Go.Hx
end

section
/-
 Lists of paths as text: the strict reader takes the text of a right list. Plain Lean. No condition.
-/
set_option maxRecDepth 100000
set_option linter.unusedSimpArgs false
namespace Go.Hx
variable [Glob]
theorem yAI (k : Int) : 5 ≤ (zSC k).length + 1 := by
 unfold zSC
 split
 ·decide
 ·split
  ·decide
  ·split
   ·decide
   ·split <;> decide
theorem yCF {k : Int} (h : 1 ≤ k ∧ k ≤ 15) : k = 1 ∨ k = 2 ∨ k = 3 ∨ (4 ≤ k ∧ k ≤ 8) ∨ (k = 9 ∨ k = 10) ∨ k = 11 ∨ k = 12 ∨ (k = 13 ∨ k = 14 ∨ k = 15) := by omega
theorem zYA {g : Bys → Option (List Pt × Bys)} {k : Int} (hk : k = 9 ∨ k = 10) {a b : Int} (h : zM0 a b = 0) (r : Bys) : zRW g k (zBK a b ++ 41 :: r) = some (some (.mk k [] [] a b []), r) := by
 have hl : zFr k = false := by rcases hk with rfl | rfl <;> rfl
 unfold zRW
 rw [if_neg (by omega), hl, if_neg (by simp), zUK _ (yCE a b)]
 simp only
 rw [zTS h, (zPS h).1, (zPS h).2]
 rfl
theorem zW9 {g : Bys → Option (List Pt × Bys)} {k : Int} (hk : k = 13 ∨ k = 14 ∨ k = 15) {s r : Bys} {l : List Pt} (h : g s = some (l, 41 :: r)) : zRW g k s = some (some (.mk k [] [] 0 0 l), r) := by
 have hl : zFr k = true := by rcases hk with rfl | rfl | rfl <;> rfl
 unfold zRW
 rw [if_neg (by omega), hl, if_pos rfl, h]
 simp only
 rw [(zA1 _ _).1, (zA1 _ _).2, if_pos rfl]
theorem tstP_colon {f d : Nat} {s : Bys} : zIX (f + 1) d (58 :: s) = zSD (zQH f (d + 1)) s := by
 rw [zIX, if_neg (by rw [zCw]; decide), if_neg (by rw [zCw]; decide), if_neg (by rw [zCw]; decide), if_neg (by rw [(zA1 _ _).1]; simp), (zA1 _ _).2]
theorem zRZ {g : Bys → Option (List Pt × Bys)} {r : Bys} (hr : Hd pT r) : zSD g ([101, 109, 112, 116, 121] ++ r) = some (some (.mk 11 [] [] 0 0 []), r) ∧ zSD g ([114, 111, 111, 116] ++ r) = some (some (.mk 12 [] [] 0 0 []), r) := by
 have h1 := yCD (n := [101, 109, 112, 116, 121]) rfl hr
 have h2 := yCD (n := [114, 111, 111, 116]) rfl hr
 constructor
 ·unfold zSD; rw [h1.1, h1.2, if_pos rfl]
 ·unfold zSD; rw [h2.1, h2.2, if_neg (by decide), if_pos rfl]
theorem zMu : ∀ f : Nat,
  (∀ t d r, GT t d → 4 * (zRV t).length ≤ f → Hd pT r → zIX f d (zRV t ++ r) = some (some t, r)) ∧
  (∀ d r, 1 ≤ f → Hd pE r → zIX f d r = some (none, r)) ∧
  (∀ m l d r, GTs m d → 4 * (zB6 m).length + 2 ≤ f → Hd pE r → zFS f d (zB6 m ++ r) l = some (l ++ m, r)) ∧
  (∀ x d r, GS x d → 4 * (zM1 x).length + 3 ≤ f → Hd pE r → zPU f d (zM1 x ++ r) = some (x, r)) ∧
  (∀ st' lk' st lk d r, GSs st' d → lk'.length = st'.length → (∀ n ∈ lk', 1 ≤ n ∧ n ≤ 4) → 4 * (zBm st' lk' false).length + 1 ≤ f → Hd pL r → zMr f d (zBm st' lk' false ++ r) st lk = some (.mk (st ++ st') (lk ++ lk'), r)) ∧
  (∀ p m l d r, GPs (p :: m) d → 4 * (zNz p ++ zBz m false).length + 4 ≤ f → Hd pB r → zMs f d (zNz p ++ zBz m false ++ r) l = some (l ++ p :: m, r)) ∧
  (∀ l d r, GL l d → 4 * (zBz l true).length + 5 ≤ f → Hd pB r → zQH f d (zBz l true ++ r) = some (l, r))
 | 0 => by
  refine ⟨?_, ?_, ?_, ?_, ?_, ?_, ?_⟩
  ·intro t d r _ h _
   obtain ⟨c, l, e, _⟩ := zHo t
   rw [e, List.length_cons] at h
   omega
  all_goals intros; omega
 | f + 1 => by
  obtain ⟨i1, i2, i3, i4, i5, i6, i7⟩ := zMu f
  refine ⟨?_, ?_, ?_, ?_, ?_, ?_, ?_⟩
  ·intro t d r hg hf hr
   obtain ⟨k, n, v, a, b, l⟩ := t
   obtain ⟨q1, q2, q3, q4, q5, q6⟩ := hg.parts
   rw [zDG] at hf ⊢
   rcases yCF q1 with rfl | rfl | rfl | hk | hk | rfl | rfl | hk
   ·rw [if_pos (by decide)] at q2
    rw [if_neg (by decide)] at q3 q4 q6
    obtain ⟨rfl, rfl⟩ := q4
    subst q3 q6
    have hn := yCD (zF8 q2) hr
    rw [if_pos rfl, List.cons_append, zIX, if_pos (zA1 _ _).1, (zA1 _ _).2, hn.1, hn.2]
   ·rw [if_pos (by decide)] at q2
    rw [if_neg (by decide)] at q3 q4 q6
    obtain ⟨rfl, rfl⟩ := q4
    subst q3 q6
    have hn := yCD (zF8 q2) hr
    rw [if_neg (by decide), if_pos rfl, List.cons_append, zIX, if_neg (by rw [zCw]; decide), if_pos (zA1 _ _).1, (zA1 _ _).2, hn.1, hn.2]
   ·rw [if_pos (by decide)] at q2
    rw [if_neg (by decide)] at q3 q4 q6
    obtain ⟨rfl, rfl⟩ := q4
    subst q3 q6
    rw [if_neg (by decide), if_neg (by decide), if_pos rfl, List.cons_append, List.append_assoc, zIX, if_neg (by rw [zCw]; decide), if_neg (by rw [zCw]; decide), if_pos (zA1 _ _).1, (zA1 _ _).2]
    show (match zTT (n ++ 93 :: r) with | some (t, r) => some (some t, r) | none => none) = _
    rw [zVO q2]
   ·rw [if_pos (by omega)] at q2
    rw [if_pos hk] at q3
    rw [if_neg (by omega)] at q4 q6
    obtain ⟨rfl, rfl⟩ := q4
    subst q6
    rw [if_neg (by omega), if_neg (by omega), if_neg (by omega), if_pos hk]
    simp only [List.cons_append, List.append_assoc, List.nil_append]
    rw [zIX, if_neg (by rw [zCw]; decide), if_neg (by rw [zCw]; decide), if_pos (zA1 _ _).1, (zA1 _ _).2, zW6 hk q2 q3]
   ·rw [if_neg (by omega)] at q2 q3 q6
    subst q2 q3 q6
    rw [if_neg (by omega), if_neg (by omega), if_neg (by omega), if_neg (by omega), if_pos hk]
    obtain ⟨w, e1, e2⟩ := zRY (g := zQH f (d + 1)) (k := k) (by omega) (zBK a b ++ 41 :: r)
    rw [e1]
    simp only [List.cons_append, List.append_assoc, List.nil_append]
    rw [tstP_colon, e2, zYA hk q5]
   ·rw [if_neg (by decide)] at q2 q3 q4 q6
    obtain ⟨rfl, rfl⟩ := q4
    subst q2 q3 q6
    exact tstP_colon.trans (zRZ hr).1
   ·rw [if_neg (by decide)] at q2 q3 q4 q6
    obtain ⟨rfl, rfl⟩ := q4
    subst q2 q3 q6
    exact tstP_colon.trans (zRZ hr).2
   ·rw [if_neg (by omega)] at q2 q3 q4
    rw [if_pos (by omega)] at q6
    obtain ⟨rfl, rfl⟩ := q4
    subst q2 q3
    rw [if_neg (by omega), if_neg (by omega), if_neg (by omega), if_neg (by omega), if_neg (by omega), if_neg (by omega), if_neg (by omega)] at hf ⊢
    obtain ⟨w, e1, e2⟩ := zRY (g := zQH f (d + 1)) (k := k) (by omega) (zBz l true ++ 41 :: r)
    have ho := yAI k
    have h7 := i7 l (d + 1) (41 :: r) q6 (by simp only [List.length_append, List.length_cons, List.length_nil] at hf; omega) (Hd.cons rfl)
    rw [e1]
    simp only [List.cons_append, List.append_assoc, List.nil_append]
    rw [tstP_colon, e2, zW9 hk h7]
  ·intro d r _ hr
   rw [zIX, if_neg (by rw [zK8 hr rfl]; simp), if_neg (by rw [zK8 hr rfl]; simp), if_neg (by rw [zK8 hr rfl]; simp), if_pos (zK8 hr rfl)]
  ·intro m l d r hg hf hr
   cases m with
   | nil =>
    simp only [zFS]
    rw [show zB6 [] ++ r = r from rfl, i2 d r (by simp [zB6] at hf; omega) hr]
    simp
   | cons t m =>
    obtain ⟨g1, g2⟩ := hg.cons
    simp only [zB6, List.length_append] at hf
    obtain ⟨c, q, e, _⟩ := zHo t
    have hl : 1 ≤ (zRV t).length := by rw [e]; simp
    simp only [zB6, zFS, List.append_assoc]
    rw [i1 t d _ g1 (by omega) (zW8 m hr)]
    simp only
    rw [i3 m _ d r g2 (by omega) hr]
    simp
  ·intro x d r hg hf hr
   obtain ⟨tag, l⟩ := x
   obtain ⟨g1, g2, g3⟩ := hg.parts
   simp only [zM1, List.length_append] at hf
   simp only [zM1, zPU, List.append_assoc]
   rcases g2 with rfl | g2
   ·simp only [if_true] at hf ⊢
    have hn : zEC ([42] ++ (zB6 l ++ r)) = [] ∧ nmR ([42] ++ (zB6 l ++ r)) = 42 :: (zB6 l ++ r) := zPV (n := []) rfl (fun c l e => by injection e with e _; rw [← e]; rfl)
    rw [hn.1, hn.2, (zA1 _ _).1, (zA1 _ _).2]
    simp only [if_true]
    rw [i3 l [] d r g3 (by simp only [List.length_cons, List.length_nil] at hf; omega) hr]
    simp
   ·rw [if_neg (zMl g2)] at hf
    simp only [if_neg (zMl g2)]
    have hn := yCD (zF8 g2) (zW8 l hr)
    rw [hn.1, hn.2, if_neg (zMl g2), i3 l [] d r g3 (by have : 1 ≤ tag.length := List.length_pos_iff.2 (zMl g2); omega) hr]
    simp
  ·intro st' lk' st lk d r hg hlen hlk hf hr
   cases st' with
   | nil =>
    have : lk' = [] := List.eq_nil_of_length_eq_zero (by simpa using hlen)
    subst this
    simp only [zBm, List.nil_append, zMr]
    rw [zVP hr, if_pos rfl]
    simp
   | cons x st' =>
    obtain ⟨g1, g2⟩ := hg.cons
    cases lk' with
    | nil => simp at hlen
    | cons n lk' =>
     have hn := hlk n List.mem_cons_self
     simp only [zBm, List.headD_cons, List.tail_cons, List.length_append] at hf
     simp only [zBm, List.headD_cons, List.tail_cons, List.append_assoc, zMr]
     obtain ⟨e1, e2⟩ := zYz hn g1 (zBm st' lk' false ++ r)
     have hl : 1 ≤ (zOd n).length := by
      have : n = 1 ∨ n = 2 ∨ n = 3 ∨ n = 4 := by omega
      rcases this with rfl | rfl | rfl | rfl <;> decide
     have hh : Hd pE (zBm st' lk' false ++ r) := by
      cases st' with
      | nil => exact hr.mono fun _ => yEf
      | cons y st' =>
       cases lk' with
       | nil => simp at hlen
       | cons n' lk' =>
        have hn' := hlk n' (List.mem_cons_of_mem _ List.mem_cons_self)
        have : ∃ q, zOd n' = 32 :: q := by
         have : n' = 1 ∨ n' = 2 ∨ n' = 3 ∨ n' = 4 := by omega
         rcases this with rfl | rfl | rfl | rfl <;> exact ⟨_, rfl⟩
        obtain ⟨q, hq⟩ := this
        simp only [zBm, List.headD_cons, hq, List.cons_append]
        exact Hd.cons rfl
     rw [e1, if_neg (by omega), e2, i4 x d _ g1 (by omega) hh]
     simp only
     rw [i5 st' lk' _ _ d r g2 (by simpa using hlen) (fun y hy => hlk y (List.mem_cons_of_mem _ hy)) (by omega) hr]
     simp
  ·intro p m l d r hg hf hr
   obtain ⟨g1, g2⟩ := hg.cons
   obtain ⟨st, lk⟩ := p
   obtain ⟨p1, p2, p3, p4, p5⟩ := g1.parts
   cases st with
   | nil => simp at p1
   | cons x st =>
    obtain ⟨s1, s2⟩ := p5.cons
    simp only [zNz, zBm, List.length_append] at hf
    simp only [zNz, zBm, zMs, List.append_assoc]
    have hh : Hd pL (zBz m false ++ r) := by
     cases m with
     | nil => exact hr.mono fun _ => yEn
     | cons y m => simp only [zBz, Bool.false_eq_true, if_false, List.cons_append]; exact Hd.cons rfl
    have hh2 : Hd pE (zBm st lk false ++ (zBz m false ++ r)) := by
     cases st with
     | nil => exact hh.mono fun _ => yEf
     | cons y st =>
      cases lk with
      | nil => simp at p3
      | cons n lk =>
       have hn := p4 n List.mem_cons_self
       have : ∃ q, zOd n = 32 :: q := by
        have : n = 1 ∨ n = 2 ∨ n = 3 ∨ n = 4 := by omega
        rcases this with rfl | rfl | rfl | rfl <;> exact ⟨_, rfl⟩
       obtain ⟨q, hq⟩ := this
       simp only [zBm, List.headD_cons, hq, List.cons_append]
       exact Hd.cons rfl
    rw [i4 x d _ s1 (by omega) hh2]
    simp only
    rw [i5 st lk [x] [] d _ s2 (by simpa using p3) p4 (by omega) hh]
    simp only [List.cons_append, List.nil_append]
    cases m with
    | nil =>
     rw [show zBz [] false ++ r = r from rfl]
     exact if_neg (by rw [zMm hr rfl]; simp)
    | cons y m =>
     have e : zBz (y :: m) false ++ r = [44, 32] ++ (zNz y ++ zBz m false ++ r) := by simp only [zBz, Bool.false_eq_true, if_false, List.append_assoc]
     simp only [zBz, Bool.false_eq_true, if_false, List.length_append, List.length_cons, List.length_nil] at hf
     rw [e, (zCx _ _).1, (zCx _ _).2, if_pos rfl, i6 y m _ d r g2 (by simp only [List.length_append]; omega) hr]
     simp
  ·intro l d r hg hf hr
   obtain ⟨h1, h2, h3, h4⟩ := hg
   simp only [zQH]
   rw [if_neg (by omega)]
   cases l with
   | nil => simp at h2
   | cons p m =>
    simp only [zBz, if_true, List.nil_append, List.length_append] at hf ⊢
    have := i6 p m [] d r h4 (by simp only [List.length_append]; omega) hr
    rw [this]
    simp
theorem zGb {l : List Pt} (h : zBB l = 0) : zID (zPT l) = some l := by
 have := (zMu (4 * (zPT l).length + 16)).2.2.2.2.2.2 l 1 [] (zW3 h) (by show 4 * (zBz l true).length + 5 ≤ 4 * (zBz l true).length + 16; omega) Hd.nil
 rw [List.append_nil] at this
 unfold zID
 rw [this]
 simp [h]
theorem zXa {s : Bys} {l : List Pt} : zID s = some l ↔ zBB l = 0 ∧ zPT l = s := by
 constructor
 ·intro h
  have := zVN h
  exact ⟨this.2, this.1⟩
 ·rintro ⟨h, rfl⟩
  exact zGb h
end Go.Hx
end

section
/-
 Lists of paths as text: how long a right list's text may be. Plain Lean. No condition.
-/
set_option maxRecDepth 100000
set_option linter.unusedSimpArgs false
namespace Go.Hx
variable [Glob]
theorem zUL {a b : Int} (h : zM0 a b = 0) : (zBK a b).length ≤ 44 := by
 unfold zM0 at h
 split at h
 ·rename_i h'
  simp only [zNy, Bool.and_eq_true, decide_eq_true_eq] at h'
  have h1 := zGa (a := a) (by omega)
  have h2 := zGa (a := b) (by omega)
  unfold zBK
  simp only [List.length_append, List.length_cons, List.length_nil]
  split <;> simp <;> omega
 ·cases h
theorem zUM (k : Int) : (zSC k).length ≤ 6 := by
 unfold zSC
 repeat' split
 all_goals simp
theorem zUN (k : Int) : (zKl k).length ≤ 2 := by
 unfold zKl
 repeat' split
 all_goals simp
theorem zYB (k : Int) : (zOd k).length ≤ 3 := by
 unfold zOd
 repeat' split
 all_goals simp
theorem zIE {n : Bys} (h : zDi n = true) : n.length ≤ 12 := by
 simp only [zDi, Bool.and_eq_true, decide_eq_true_eq] at h
 omega
theorem zMv {n : Bys} (h : zFc n = true) : n.length ≤ 16 := by
 simp only [zFc, Bool.and_eq_true, decide_eq_true_eq] at h
 omega
def tB (d : Nat) : Nat := if d = 1 then 1229192 else if d = 2 then 8192 else 52
theorem yDZ (d : Nat) : 52 ≤ tB d := by
 unfold tB
 split
 ·omega
 ·split <;> omega
theorem yAJ {d : Nat} (h1 : 1 ≤ d) (h : d + 1 ≤ 3) : 7 + 5 * (5 * (15 + 6 * tB (d + 1)) + 2) ≤ tB d := by
 have : d = 1 ∨ d = 2 := by omega
 rcases this with rfl | rfl <;> decide
mutual
theorem yEp : ∀ (t : Ts) (d : Nat), 1 ≤ d → GT t d → (zRV t).length ≤ tB d
 | .mk k n v a b l, d, hd, h => by
  obtain ⟨h1, h2, h3, h4, h5, h6⟩ := h.parts
  have hb := yDZ d
  have ho := zUM k
  have hs := zUN k
  have hnt := zUL h5
  have hl : 13 ≤ k → (zBz l true).length + 7 ≤ tB d := fun hk => by
   rw [if_pos hk] at h6
   have := zYC l true (d + 1) (by omega) h6.2.2.2
   have h7 := yAJ hd h6.1
   have h8 : l.length * (5 * (15 + 6 * tB (d + 1)) + 2) ≤ 5 * (5 * (15 + 6 * tB (d + 1)) + 2) := Nat.mul_le_mul_right _ h6.2.2.1
   omega
  have hn : n.length ≤ 12 := by
   split at h2
   ·exact zIE h2
   ·rw [h2]; simp
  have hv : v.length ≤ 16 := by
   split at h3
   ·exact zMv h3
   ·rw [h3]; simp
  rw [zDG]
  split
  ·simp only [List.length_cons]; omega
  ·split
   ·simp only [List.length_cons]; omega
   ·split
    ·simp only [List.length_cons, List.length_append, List.length_nil]; omega
    ·split
     ·simp only [List.length_cons, List.length_append, List.length_nil]; omega
     ·split
      ·simp only [List.length_cons, List.length_append, List.length_nil]; omega
      ·split
       ·simp only [List.length_cons, List.length_nil]; omega
       ·split
        ·simp only [List.length_cons, List.length_nil]; omega
        ·have := hl (by omega)
         simp only [List.length_cons, List.length_append, List.length_nil]; omega
theorem yCG : ∀ (l : List Ts) (d : Nat), 1 ≤ d → GTs l d → (zB6 l).length ≤ l.length * tB d
 | [], d, _, _ => by simp [zB6]
 | t :: l, d, hd, h => by
  have h1 := yEp t d hd h.cons.1
  have h2 := yCG l d hd h.cons.2
  simp only [zB6, List.length_append, List.length_cons, Nat.add_mul, Nat.one_mul]
  omega
theorem yEg : ∀ (x : St) (d : Nat), 1 ≤ d → GS x d → (zM1 x).length ≤ 12 + 6 * tB d
 | .mk tag l, d, hd, h => by
  obtain ⟨h1, h2, h3⟩ := h.parts
  have h4 := yCG l d hd h3
  have h5 : l.length * tB d ≤ 6 * tB d := Nat.mul_le_mul_right _ h1
  have h6 : (if tag = [] then ([42] : Bys) else tag).length ≤ 12 := by
   split
   ·simp
   ·exact zIE (h2.resolve_left (by assumption))
  simp only [zM1, List.length_append]
  omega
theorem yAK : ∀ (l : List St) (lk : List Int) (b : Bool) (d : Nat), 1 ≤ d → GSs l d → (zBm l lk b).length ≤ l.length * (15 + 6 * tB d)
 | [], lk, b, d, _, _ => by simp [zBm]
 | x :: r, lk, true, d, hd, h => by
  have h1 := yEg x d hd h.cons.1
  have h2 := yAK r lk false d hd h.cons.2
  simp only [zBm, List.length_append, List.length_cons, Nat.add_mul, Nat.one_mul]
  omega
 | x :: r, lk, false, d, hd, h => by
  have h1 := yEg x d hd h.cons.1
  have h2 := yAK r lk.tail false d hd h.cons.2
  have h3 := zYB (lk.headD 0)
  simp only [zBm, List.length_append, List.length_cons, Nat.add_mul, Nat.one_mul]
  omega
theorem yD0 : ∀ (p : Pt) (d : Nat), 1 ≤ d → GP p d → (zNz p).length ≤ 5 * (15 + 6 * tB d)
 | .mk st lk, d, hd, h => by
  obtain ⟨h1, h2, h3, h4, h5⟩ := h.parts
  have h6 := yAK st lk true d hd h5
  have h7 : st.length * (15 + 6 * tB d) ≤ 5 * (15 + 6 * tB d) := Nat.mul_le_mul_right _ h2
  simp only [zNz]
  omega
theorem zYC : ∀ (l : List Pt) (b : Bool) (d : Nat), 1 ≤ d → GPs l d → (zBz l b).length ≤ l.length * (5 * (15 + 6 * tB d) + 2)
 | [], b, d, _, _ => by simp [zBz]
 | p :: r, b, d, hd, h => by
  have h1 := yD0 p d hd h.cons.1
  have h2 := zYC r false d hd h.cons.2
  have h3 : (if b then ([] : Bys) else [44, 32]).length ≤ 2 := by cases b <;> simp
  simp only [zBz, List.length_append, List.length_cons]
  rw [Nat.succ_mul]
  omega
end
theorem yCQ {l : List Pt} {d : Nat} (hd : 1 ≤ d) (h : GL l d) : (zPT l).length ≤ 184379185 := by
 have h1 := zYC l true d hd h.2.2.2
 have h2 : l.length * (5 * (15 + 6 * tB d) + 2) ≤ 5 * (5 * (15 + 6 * tB d) + 2) := Nat.mul_le_mul_right _ h.2.2.1
 have h3 : tB d ≤ 1229192 := by
  unfold tB
  split
  ·omega
  ·split <;> omega
 have h4 : (zPT l).length = (zBz l true).length := rfl
 omega
end Go.Hx
end

section
/-
 Lists of paths as text: the lenient reader takes the text of a right list too. Plain Lean. No condition.
-/
set_option maxRecDepth 100000
set_option linter.unusedSimpArgs false
namespace Go.Hx
variable [Glob]
end Go.Hx
end

section
set_option maxRecDepth 100000
set_option linter.unusedSimpArgs false
namespace Go.Hx
open Go.Proofs Go.RowKit
variable [Glob]
attribute [local go_sem] zAw zAu zAv zAm ndV zAq zAl
attribute [local go_sem] reduceCtorEq Nat.reduceAdd Nat.reduceEqDiff reduceIte Nat.reduceLeDiff Nat.reduceLT Nat.reduceSub
abbrev xbV : Value := .iface zBy (.agg #[])
theorem zBp (s t : Bys) : Contract Tryz.prog zAP [.io [bS s], .val (sv t)] { res := .val (bv (zAn s t)), io := [bS (zAs s t)] } := by
  refine zLX (base := 21) ⟨Nat.le_of_ble_eq_true rfl, Nat.le_of_ble_eq_true rfl, Nat.le_of_ble_eq_true rfl, ⟨rfl, rfl⟩⟩ (fun hfit => ?_)
  unfold F0 zDp
  simp (maxSteps := 2000000) only [zAS, List.set_cons_succ, List.set_cons_zero, List.map_cons, List.map_nil, zAQ, zAb, ioOf, List.length_cons, List.length_nil, Nat.reduceAdd, Nat.reduceSub, List.replicate, List.cons_append, List.nil_append]
  try simp (maxSteps := 2000000) only [go_sem]
  repeat with_reducible refine zAc ?_
  refine zAF (by repeat' constructor) (zGB s t) ?_
  try simp (maxSteps := 2000000) only [go_sem]
  repeat with_reducible refine zAc ?_
  exact zLI rfl trivial (.inl rfl) rfl rfl
theorem zD9 (s t : Bys) (h : zAn s t = true) : Contract Tryz.prog zA8 [.io [bS s], .val (sv t)] { res := .tup [], io := [bS (zAs s t)] } := by
  refine zFC (base := 10) ⟨Nat.le_of_ble_eq_true rfl, Nat.le_of_ble_eq_true rfl, Nat.le_of_ble_eq_true rfl, ⟨rfl, rfl⟩⟩ (fun hfit => ?_)
  unfold F0 zB3
  simp (maxSteps := 2000000) only [zAS, List.set_cons_succ, List.set_cons_zero, List.map_cons, List.map_nil, zAQ, zAb, ioOf, List.length_cons, List.length_nil, Nat.reduceAdd, Nat.reduceSub, List.replicate, List.cons_append, List.nil_append]
  try simp (maxSteps := 2000000) only [go_sem]
  repeat with_reducible refine zAc ?_
  refine zAf (by repeat' constructor) (zBp s t) ?_
  try simp (maxSteps := 2000000) only [go_sem]
  repeat with_reducible refine zAc ?_
  refine zAa (by rfl) trivial (fun h2 => ?_) (fun h2 => ?_)
  · rw [h] at h2; simp at h2
  · try simp (maxSteps := 2000000) only [go_sem]
    repeat with_reducible refine zAc ?_
    exact ⟨by first | rfl | trivial | (simp only [zCF]; trivial), fun cs hcs => by injection hcs with hcs; subst hcs; rfl⟩
theorem zB7 (s t : Bys) (h : zAn s t = false) : Contract Tryz.prog zA8 [.io [bS s], .val (sv t)] { res := .pan xbV } := by
  refine zFC (base := 10) ⟨Nat.le_of_ble_eq_true rfl, Nat.le_of_ble_eq_true rfl, Nat.le_of_ble_eq_true rfl, ⟨rfl, rfl⟩⟩ (fun hfit => ?_)
  unfold F0 zB3
  simp (maxSteps := 2000000) only [zAS, List.set_cons_succ, List.set_cons_zero, List.map_cons, List.map_nil, zAQ, zAb, ioOf, List.length_cons, List.length_nil, Nat.reduceAdd, Nat.reduceSub, List.replicate, List.cons_append, List.nil_append]
  try simp (maxSteps := 2000000) only [go_sem]
  repeat with_reducible refine zAc ?_
  refine zAf (by repeat' constructor) (zBp s t) ?_
  try simp (maxSteps := 2000000) only [go_sem]
  repeat with_reducible refine zAc ?_
  refine zAa (by rfl) trivial (fun h2 => ?_) (fun h2 => ?_)
  · try simp (maxSteps := 2000000) only [go_sem]
    repeat with_reducible refine zAc ?_
    exact ⟨_, rfl, rfl⟩
  · rw [h] at h2; simp at h2
theorem zCq (s : Bys) : Contract Tryz.prog zAR [.io [bS s]] { res := .val (sv (zEC s)), io := [bS (nmR s)] } := by
  have hm0 : maxLen = 9223372036854775807 := rfl
  refine zGA (base := 33) ⟨Nat.le_of_ble_eq_true rfl, Nat.le_of_ble_eq_true rfl, Nat.le_of_ble_eq_true rfl, ⟨rfl, rfl⟩⟩ (fun hfit => ?_)
  unfold F0 zBX
  simp (maxSteps := 2000000) only [zAS, List.set_cons_succ, List.set_cons_zero, List.map_cons, List.map_nil, zAQ, zAb, ioOf, List.length_cons, List.length_nil, Nat.reduceAdd, Nat.reduceSub, List.replicate, List.cons_append, List.nil_append]
  try simp (maxSteps := 2000000) only [go_sem]
  repeat with_reducible refine zAc ?_
  have hm := zK7 hfit.1.1
  have hl := yCq s nameCh
  have hx1 : ((s.length : Int) - ((s.dropWhile nameCh).length : Int)).toNat = (s.takeWhile nameCh).length := by omega
  obtain ⟨t1, t2⟩ := zWN s nameCh
  refine zAf (by repeat' constructor) (zHk s _ (by decide) (by decide)) ?_
  try simp (maxSteps := 2000000) only [go_sem, yCr, hx1, List.take_length, t1, t2, Int.toNat_zero, List.drop_zero]
  repeat with_reducible refine zAc ?_
  exact zLI rfl trivial (.inl rfl) rfl rfl
theorem zMw (hM : zWO) (s t : Bys) (hs : s.length ≤ 268435456) (h : (Lib.cut s t).2.2 = true) : Contract Tryz.prog zBO [.io [bS s], .val (sv t)] { res := .val (sv (Lib.cut s t).1), io := [bS (Lib.cut s t).2.1] } := by
  refine zFD (base := 27) ⟨Nat.le_of_ble_eq_true rfl, Nat.le_of_ble_eq_true rfl, Nat.le_of_ble_eq_true rfl, ⟨rfl, rfl⟩⟩ (fun hfit => ?_)
  unfold F0 zB4
  simp (maxSteps := 2000000) only [zAS, List.set_cons_succ, List.set_cons_zero, List.map_cons, List.map_nil, zAQ, zAb, ioOf, List.length_cons, List.length_nil, Nat.reduceAdd, Nat.reduceSub, List.replicate, List.cons_append, List.nil_append]
  try simp (maxSteps := 2000000) only [go_sem]
  repeat with_reducible refine zAc ?_
  refine zAF (by repeat' constructor) (zGn hM s t (by omega)) ?_
  try simp (maxSteps := 2000000) only [go_sem]
  repeat with_reducible refine zAc ?_
  refine zAa (by rfl) trivial (fun h2 => ?_) (fun h2 => ?_)
  · rw [h] at h2; simp at h2
  · try simp (maxSteps := 2000000) only [go_sem]
    repeat with_reducible refine zAc ?_
    exact zLI rfl trivial (.inl rfl) rfl rfl
theorem zFT (hM : zWO) (s t : Bys) (hs : s.length ≤ 268435456) (h : (Lib.cut s t).2.2 = false) : Contract Tryz.prog zBO [.io [bS s], .val (sv t)] { res := .pan xbV } := by
  refine zFD (base := 27) ⟨Nat.le_of_ble_eq_true rfl, Nat.le_of_ble_eq_true rfl, Nat.le_of_ble_eq_true rfl, ⟨rfl, rfl⟩⟩ (fun hfit => ?_)
  unfold F0 zB4
  simp (maxSteps := 2000000) only [zAS, List.set_cons_succ, List.set_cons_zero, List.map_cons, List.map_nil, zAQ, zAb, ioOf, List.length_cons, List.length_nil, Nat.reduceAdd, Nat.reduceSub, List.replicate, List.cons_append, List.nil_append]
  try simp (maxSteps := 2000000) only [go_sem]
  repeat with_reducible refine zAc ?_
  refine zAF (by repeat' constructor) (zGn hM s t (by omega)) ?_
  try simp (maxSteps := 2000000) only [go_sem]
  repeat with_reducible refine zAc ?_
  refine zAa (by rfl) trivial (fun h2 => ?_) (fun h2 => ?_)
  · try simp (maxSteps := 2000000) only [go_sem]
    repeat with_reducible refine zAc ?_
    exact ⟨_, rfl, rfl⟩
  · rw [h] at h2; simp at h2
theorem zXb (k : Int) (h : 4 ≤ k ∧ k ≤ 8) : Contract Tryz.prog zEr [.val (iv k)] { res := .val (sv (zKl k)) } := by
  have h5 : k = 4 ∨ k = 5 ∨ k = 6 ∨ k = 7 ∨ k = 8 := by omega
  rcases h5 with rfl | rfl | rfl | rfl | rfl <;>
    (refine zRj (base := 0) ⟨Nat.le_of_ble_eq_true rfl, Nat.le_of_ble_eq_true rfl, Nat.le_of_ble_eq_true rfl, rfl⟩ (fun hfit => ?_)
     unfold F0 zFl
     simp (maxSteps := 2000000) only [zAS, List.set_cons_succ, List.set_cons_zero, List.map_cons, List.map_nil, zAQ, zAb, ioOf, List.length_cons, List.length_nil, Nat.reduceAdd, Nat.reduceSub, List.replicate, List.cons_append, List.nil_append]
     try simp (maxSteps := 2000000) only [go_sem]
     repeat with_reducible refine zAc ?_
     exact zAt rfl trivial (.inl rfl))
theorem zHp : Contract Tryz.prog zDQ [] { res := .val (.agg [bS [], bS [32], bS [32, 62, 32], bS [32, 43, 32], bS [32, 126, 32]]) } := by
  refine zPh (base := 0) ⟨Nat.le_of_ble_eq_true rfl, Nat.le_of_ble_eq_true rfl, Nat.le_of_ble_eq_true rfl, rfl⟩ (fun hfit => ?_)
  unfold F0 zEt
  simp (maxSteps := 2000000) only [zAS, List.set_cons_succ, List.set_cons_zero, List.map_cons, List.map_nil, zAQ, zAb, ioOf, List.length_cons, List.length_nil, Nat.reduceAdd, Nat.reduceSub, List.replicate, List.cons_append, List.nil_append]
  try simp (maxSteps := 2000000) only [go_sem]
  repeat with_reducible refine zAc ?_
  exact zGZ rfl rfl rfl
theorem zFU (k : Int) (h : k = 9 ∨ k = 10 ∨ k = 13 ∨ k = 14 ∨ k = 15) : Contract Tryz.prog zDo [.val (iv k)] { res := .val (sv (zSC k)) } := by
  rcases h with rfl | rfl | rfl | rfl | rfl
  · refine zCo (base := 0) ⟨Nat.le_of_ble_eq_true rfl, Nat.le_of_ble_eq_true rfl, Nat.le_of_ble_eq_true rfl, rfl⟩ (fun hfit => ?_)
    unfold F0 zBt
    simp (maxSteps := 2000000) only [zAS, List.set_cons_succ, List.set_cons_zero, List.map_cons, List.map_nil, zAQ, zAb, ioOf, List.length_cons, List.length_nil, Nat.reduceAdd, Nat.reduceSub, List.replicate, List.cons_append, List.nil_append]
    try simp (maxSteps := 2000000) only [go_sem]
    repeat with_reducible refine zAc ?_
    refine zAa (by rfl) trivial (fun h1 => ?_) (fun h1 => ?_)
    · try simp (maxSteps := 2000000) only [go_sem]
      repeat with_reducible refine zAc ?_
      exact zAt rfl trivial (.inl rfl)
    · cases h1
  · refine zCo (base := 0) ⟨Nat.le_of_ble_eq_true rfl, Nat.le_of_ble_eq_true rfl, Nat.le_of_ble_eq_true rfl, rfl⟩ (fun hfit => ?_)
    unfold F0 zBt
    simp (maxSteps := 2000000) only [zAS, List.set_cons_succ, List.set_cons_zero, List.map_cons, List.map_nil, zAQ, zAb, ioOf, List.length_cons, List.length_nil, Nat.reduceAdd, Nat.reduceSub, List.replicate, List.cons_append, List.nil_append]
    try simp (maxSteps := 2000000) only [go_sem]
    repeat with_reducible refine zAc ?_
    refine zAa (by rfl) trivial (fun h1 => ?_) (fun h1 => ?_)
    · cases h1
    · try simp (maxSteps := 2000000) only [go_sem]
      repeat with_reducible refine zAc ?_
      refine zAa (by rfl) trivial (fun h2 => ?_) (fun h2 => ?_)
      · try simp (maxSteps := 2000000) only [go_sem]
        repeat with_reducible refine zAc ?_
        exact zAt rfl trivial (.inl rfl)
      · cases h2
  · refine zCo (base := 0) ⟨Nat.le_of_ble_eq_true rfl, Nat.le_of_ble_eq_true rfl, Nat.le_of_ble_eq_true rfl, rfl⟩ (fun hfit => ?_)
    unfold F0 zBt
    simp (maxSteps := 2000000) only [zAS, List.set_cons_succ, List.set_cons_zero, List.map_cons, List.map_nil, zAQ, zAb, ioOf, List.length_cons, List.length_nil, Nat.reduceAdd, Nat.reduceSub, List.replicate, List.cons_append, List.nil_append]
    try simp (maxSteps := 2000000) only [go_sem]
    repeat with_reducible refine zAc ?_
    refine zAa (by rfl) trivial (fun h1 => ?_) (fun h1 => ?_)
    · cases h1
    · try simp (maxSteps := 2000000) only [go_sem]
      repeat with_reducible refine zAc ?_
      refine zAa (by rfl) trivial (fun h2 => ?_) (fun h2 => ?_)
      · cases h2
      · try simp (maxSteps := 2000000) only [go_sem]
        repeat with_reducible refine zAc ?_
        refine zAa (by rfl) trivial (fun h3 => ?_) (fun h3 => ?_)
        · try simp (maxSteps := 2000000) only [go_sem]
          repeat with_reducible refine zAc ?_
          exact zAt rfl trivial (.inl rfl)
        · cases h3
  · refine zCo (base := 0) ⟨Nat.le_of_ble_eq_true rfl, Nat.le_of_ble_eq_true rfl, Nat.le_of_ble_eq_true rfl, rfl⟩ (fun hfit => ?_)
    unfold F0 zBt
    simp (maxSteps := 2000000) only [zAS, List.set_cons_succ, List.set_cons_zero, List.map_cons, List.map_nil, zAQ, zAb, ioOf, List.length_cons, List.length_nil, Nat.reduceAdd, Nat.reduceSub, List.replicate, List.cons_append, List.nil_append]
    try simp (maxSteps := 2000000) only [go_sem]
    repeat with_reducible refine zAc ?_
    refine zAa (by rfl) trivial (fun h1 => ?_) (fun h1 => ?_)
    · cases h1
    · try simp (maxSteps := 2000000) only [go_sem]
      repeat with_reducible refine zAc ?_
      refine zAa (by rfl) trivial (fun h2 => ?_) (fun h2 => ?_)
      · cases h2
      · try simp (maxSteps := 2000000) only [go_sem]
        repeat with_reducible refine zAc ?_
        refine zAa (by rfl) trivial (fun h3 => ?_) (fun h3 => ?_)
        · cases h3
        · try simp (maxSteps := 2000000) only [go_sem]
          repeat with_reducible refine zAc ?_
          refine zAa (by rfl) trivial (fun h4 => ?_) (fun h4 => ?_)
          · try simp (maxSteps := 2000000) only [go_sem]
            repeat with_reducible refine zAc ?_
            exact zAt rfl trivial (.inl rfl)
          · cases h4
  · refine zCo (base := 0) ⟨Nat.le_of_ble_eq_true rfl, Nat.le_of_ble_eq_true rfl, Nat.le_of_ble_eq_true rfl, rfl⟩ (fun hfit => ?_)
    unfold F0 zBt
    simp (maxSteps := 2000000) only [zAS, List.set_cons_succ, List.set_cons_zero, List.map_cons, List.map_nil, zAQ, zAb, ioOf, List.length_cons, List.length_nil, Nat.reduceAdd, Nat.reduceSub, List.replicate, List.cons_append, List.nil_append]
    try simp (maxSteps := 2000000) only [go_sem]
    repeat with_reducible refine zAc ?_
    refine zAa (by rfl) trivial (fun h1 => ?_) (fun h1 => ?_)
    · cases h1
    · try simp (maxSteps := 2000000) only [go_sem]
      repeat with_reducible refine zAc ?_
      refine zAa (by rfl) trivial (fun h2 => ?_) (fun h2 => ?_)
      · cases h2
      · try simp (maxSteps := 2000000) only [go_sem]
        repeat with_reducible refine zAc ?_
        refine zAa (by rfl) trivial (fun h3 => ?_) (fun h3 => ?_)
        · cases h3
        · try simp (maxSteps := 2000000) only [go_sem]
          repeat with_reducible refine zAc ?_
          refine zAa (by rfl) trivial (fun h4 => ?_) (fun h4 => ?_)
          · cases h4
          · try simp (maxSteps := 2000000) only [go_sem]
            repeat with_reducible refine zAc ?_
            exact zAt rfl trivial (.inl rfl)
end Go.Hx
end

section
set_option maxRecDepth 100000
set_option linter.unusedSimpArgs false
namespace Go.Hx
open Go.Proofs Go.RowKit
variable [Glob]
attribute [local go_sem] zAw zAu zAv zAm ndV zAq zAl
attribute [local go_sem] reduceCtorEq Nat.reduceAdd Nat.reduceEqDiff reduceIte Nat.reduceLeDiff Nat.reduceLT Nat.reduceSub
theorem zIY {E : Env} {base t j bs off n : Nat} {av : List AV} {F : List Ct} {agg : Bool} {cs cells io : List PV} {x : PVal} (e : F.getD t .un = .ptr j off) (h : zAD F (bs + off) n = some cs) (hx : x = (if agg then PVal.agg cs else .one (cs.headD (.nl 0))).norm) (hio : ioOf av = some cells) (hc : zAD F base cells.length = some io) : zDb E base av [.cellB t j bs off n agg] { res := .val x, io := io } .ret F :=
 ⟨by simp only [zCF]; exact zBc e h (.inr hx), fun cs' h' => by rw [hio] at h'; injection h' with h'; subst h'; exact hc⟩
def zEc (s : Bys) : RV := match zTT s with
 | some (t, r) => { res := .val (.agg (tsV t)), io := [bS r] }
 | none => { res := .pan xbV }
theorem zYG {s : Bys} {i : Int} (hi : 4 ≤ i ∧ i ≤ 8) (hb : ∀ j : Int, 4 ≤ j → j < i → zAn s (zKl j ++ [34]) = false) (h : zAn s (zKl i ++ [34]) = true) : kd s = i := by
 have e4 : i ≠ 4 → zAn s [61, 34] = false := fun hne => hb 4 (by omega) (by omega)
 have e5 : 5 < i → zAn s [94, 61, 34] = false := fun hne => hb 5 (by omega) (by omega)
 have e6 : 6 < i → zAn s [36, 61, 34] = false := fun hne => hb 6 (by omega) (by omega)
 have e7 : 7 < i → zAn s [42, 61, 34] = false := fun hne => hb 7 (by omega) (by omega)
 rcases zMt hi with rfl | rfl | rfl | rfl | rfl
 ·unfold kd
  exact if_pos h
 ·unfold kd
  rw [e4 (by decide), if_neg (by simp)]
  exact if_pos h
 ·unfold kd
  rw [e4 (by decide), e5 (by decide), if_neg (by simp), if_neg (by simp)]
  exact if_pos h
 ·unfold kd
  rw [e4 (by decide), e5 (by decide), e6 (by decide), if_neg (by simp), if_neg (by simp), if_neg (by simp)]
  exact if_pos h
 ·unfold kd
  rw [e4 (by decide), e5 (by decide), e6 (by decide), e7 (by decide), if_neg (by simp), if_neg (by simp), if_neg (by simp), if_neg (by simp)]
  exact if_pos h
theorem yCH {s : Bys} (hb : ∀ j : Int, 4 ≤ j → j < 9 → zAn s (zKl j ++ [34]) = false) : kd s = 3 := by
 have e4 : zAn s [61, 34] = false := hb 4 (by omega) (by omega)
 have e5 : zAn s [94, 61, 34] = false := hb 5 (by omega) (by omega)
 have e6 : zAn s [36, 61, 34] = false := hb 6 (by omega) (by omega)
 have e7 : zAn s [42, 61, 34] = false := hb 7 (by omega) (by omega)
 have e8 : zAn s [126, 61, 34] = false := hb 8 (by omega) (by omega)
 unfold kd
 rw [e4, e5, e6, e7, e8]
 simp
theorem yAP (k : Int) : (zKl k).length ≤ 2 := by
 unfold zKl
 split
 ·decide
 ·split
  ·decide
  ·split
   ·decide
   ·split <;> decide
set_option maxHeartbeats 4000000 in
theorem zTZ (hM : zWO) (s : Bys) (hs : s.length ≤ 268435456) : Contract Tryz.prog zDF [.io [bS s]] (zEc s) := by
 have hm0 : maxLen = 9223372036854775807 := rfl
 have hr1 := zTN s
 refine zJn (base := 25) ⟨Nat.le_of_ble_eq_true rfl, Nat.le_of_ble_eq_true rfl, Nat.le_of_ble_eq_true rfl, ⟨rfl, rfl⟩⟩ (fun hfit => ?_) (fun _ _ => rfl)
 unfold F0 zCW
 simp (maxSteps := 2000000) only [zAS, List.set_cons_succ, List.set_cons_zero, List.map_cons, List.map_nil, zAQ, zAb, ioOf, List.length_cons, List.length_nil, Nat.reduceAdd, Nat.reduceSub, List.replicate, List.cons_append, List.nil_append]
 try simp (maxSteps := 2000000) only [go_sem]
 repeat with_reducible refine zAc ?_
 refine zAf (by repeat' constructor) (zCq s) ?_
 try simp (maxSteps := 2000000) only [go_sem]
 repeat with_reducible refine zAc ?_
 refine zAz (fun i : Nat => [(4, .pv (iv i)), (25, .pv (.one (bS (nmR s)))), (32, .pv (.one (bI 3))), (33, .pv (.one (bS (zEC s)))), (34, .pv (.one (bS []))), (35, .pv (.one (bI 0))), (36, .pv (.one (bI 0))), (37, .pv (.one (.nl 2))), (9, .un), (16, .un)]) (fun i : Nat => 9 - i) (fun i : Nat => 4 ≤ i ∧ i ≤ 9 ∧ ∀ j : Int, 4 ≤ j → j < i → zAn (nmR s) (zKl j ++ [34]) = false) (4) ?_ ⟨Nat.le_refl _, by decide, fun j h1 h2 => by omega⟩ ?_
 focus (simp (maxSteps := 2000000) only [go_sem, zAg, zAo, zAB, zAd]; all_goals (repeat' (first | exact trivial | exact zAj (by omega) | exact zAi rfl | exact zAx rfl | exact zAp | exact le_refl _ | refine And.intro ?_ ?_)))
 rintro i ⟨i1, i2, hb⟩
 have hsl := yAP i
 try simp (maxSteps := 2000000) only [go_sem]
 repeat with_reducible refine zAc ?_
 refine zAa (by rfl) trivial (fun h => ?_) (fun h => ?_)
 ·have hi : i ≤ 8 := by have := of_decide_eq_true h; omega
  try simp (maxSteps := 2000000) only [go_sem]
  repeat with_reducible refine zAc ?_
  refine zAf (by repeat' constructor) (zXb (i : Int) ⟨by omega, by omega⟩) ?_
  try simp (maxSteps := 2000000) only [go_sem, List.length_append, List.length_cons, List.length_nil]
  repeat with_reducible refine zAc ?_
  refine zAf (by repeat' constructor) (zBp (nmR s) (zKl i ++ [34])) ?_
  try simp (maxSteps := 2000000) only [go_sem]
  repeat with_reducible refine zAc ?_
  refine zAa (by rfl) trivial (fun g => ?_) (fun g => ?_)
  ·have hk := zYG ⟨by omega, by omega⟩ hb g
   have hat : zAs (nmR s) (zKl i ++ [34]) = atS s := by unfold atS; rw [hk]
   have hal : (atS s).length ≤ s.length := by rw [← hat]; exact Nat.le_trans (zMj _ _) hr1
   rw [hat]
   try simp (maxSteps := 2000000) only [go_sem]
   repeat with_reducible refine zAc ?_
   cases hc : (Lib.cut (atS s) [34]).2.2 with
   | false =>
    have e : zEc s = { res := .pan xbV } := by unfold zEc zTT; rw [hk, if_neg (by omega), hc]; rfl
    rw [e]
    refine zBs (by repeat' constructor) (zFT hM (atS s) [34] (by omega) hc) ?_
    try simp (maxSteps := 2000000) only [go_sem]
    repeat with_reducible refine zAc ?_
    exact ⟨_, rfl, rfl⟩
   | true =>
    have hcl := (zWP (atS s) [34]).2
    refine zAf (by repeat' constructor) (zMw hM (atS s) [34] (by omega) hc) ?_
    try simp (maxSteps := 2000000) only [go_sem]
    repeat with_reducible refine zAc ?_
    cases hm : zAn (Lib.cut (atS s) [34]).2.1 [93] with
    | false =>
     have e : zEc s = { res := .pan xbV } := by unfold zEc zTT; rw [hk, if_neg (by omega), hc, hm]; rfl
     rw [e]
     refine zBs (by repeat' constructor) (zB7 _ _ hm) ?_
     try simp (maxSteps := 2000000) only [go_sem]
     repeat with_reducible refine zAc ?_
     exact ⟨_, rfl, rfl⟩
    | true =>
     have e : zEc s = { res := .val (.agg (tsV (.mk i (zEC s) (Lib.cut (atS s) [34]).1 0 0 []))), io := [bS (zAs (Lib.cut (atS s) [34]).2.1 [93])] } := by unfold zEc zTT; rw [hk, if_neg (by omega), hc, hm]; rfl
     rw [e]
     refine zBV (by repeat' constructor) (zD9 _ _ hm) ?_
     try simp (maxSteps := 2000000) only [go_sem]
     repeat with_reducible refine zAc ?_
     exact zIY rfl rfl rfl rfl rfl
  ·have e0 : zAs (nmR s) (zKl i ++ [34]) = nmR s := by unfold zAs; rw [g]; rfl
   try simp (maxSteps := 2000000) only [go_sem]
   repeat with_reducible refine zAc ?_
   rw [e0]
   refine ⟨i + 1, by omega, ⟨by omega, by omega, fun j h1 h2 => ?_⟩, ?_⟩
   ·by_cases hj : j < i
    ·exact hb j h1 hj
    ·have : j = i := by omega
     rw [this]; exact g
   ·simp (maxSteps := 2000000) only [go_sem, zAg, zAo, zAB, zAd]
    all_goals (repeat' (first | exact trivial | exact zAj (by omega) | exact zAi rfl | exact zAx rfl | exact zAp | exact le_refl _ | refine And.intro ?_ ?_))
 ·have hi : i = 9 := by have := of_decide_eq_false h; omega
  subst hi
  have hk := yCH hb
  try simp (maxSteps := 2000000) only [go_sem]
  repeat with_reducible refine zAc ?_
  cases hm : zAn (nmR s) [93] with
  | false =>
   have e : zEc s = { res := .pan xbV } := by unfold zEc zTT; rw [hk, if_pos rfl, hm]; rfl
   rw [e]
   refine zBs (by repeat' constructor) (zB7 _ _ hm) ?_
   try simp (maxSteps := 2000000) only [go_sem]
   repeat with_reducible refine zAc ?_
   exact ⟨_, rfl, rfl⟩
  | true =>
   have e : zEc s = { res := .val (.agg (tsV (.mk 3 (zEC s) [] 0 0 []))), io := [bS (zAs (nmR s) [93])] } := by unfold zEc zTT; rw [hk, if_pos rfl, hm]; rfl
   rw [e]
   refine zBV (by repeat' constructor) (zD9 _ _ hm) ?_
   try simp (maxSteps := 2000000) only [go_sem]
   repeat with_reducible refine zAc ?_
   exact zIY rfl rfl rfl rfl rfl
end Go.Hx
end

section
set_option maxRecDepth 100000
set_option linter.unusedSimpArgs false
namespace Go.Hx
open Go.Proofs Go.RowKit
attribute [local instance] zAZ
attribute [local go_sem] zAw zAu zAv zAm ndV zAq zAl
attribute [local go_sem] reduceCtorEq Nat.reduceAdd Nat.reduceEqDiff reduceIte Nat.reduceLeDiff Nat.reduceLT Nat.reduceSub
abbrev yA5 (b : Nat) (l : List (Bys × Int)) : OV := .mp b (l.map fun x => mkS x.1) (l.map fun x => .p (bI x.2))
def zXo : List (Bys × Int) → Bys → Option Int
 | [], _ => none
 | x :: l, w => if w = x.1 then some x.2 else zXo l w
theorem yCI (a b : Bys) : zEG (mkS a) (mkS b) = decide (a = b) := rfl
theorem zXp : ∀ (l : List (Bys × Int)) (w : Bys), (zFF (l.map fun x => mkS x.1) (mkS w) = none ∧ zXo l w = none) ∨ (∃ i, zFF (l.map fun x => mkS x.1) (mkS w) = some i ∧ i < l.length ∧ zXo l w = some (l.getD i default).2)
 | [], w => .inl ⟨rfl, rfl⟩
 | x :: l, w => by
  unfold zFF
  simp only [List.map_cons, List.findIdx?_cons, yCI, zXo]
  by_cases h : w = x.1
  ·right
   exact ⟨0, by simp [h], by simp, by simp [h]⟩
  ·simp only [h, decide_false, Bool.false_eq_true, if_false]
   rcases zXp l w with ⟨h1, h2⟩ | ⟨i, h1, h2, h3⟩
   ·left
    unfold zFF at h1
    exact ⟨by rw [h1]; rfl, h2⟩
   ·right
    unfold zFF at h1
    exact ⟨i + 1, by rw [h1]; rfl, by simp; omega, by simpa using h3⟩
section
variable {P : Program} {F : List Ct} {K : List Ct → Prop} {X : Value → List Ct → Prop}
theorem yCJ {d : Nat} (h : ∀ b, K (F.set d (.ov (.one (yA5 b []))))) : hoW P ⟨none, .mmk d⟩ F K X := h
theorem zT0 {r b : Nat} {l : List (Bys × Int)} {w : Bys} {n : Int} (hr : F.getD r .un = .ov (.one (yA5 b l))) (hw : zXo l w = none) (hK : K (F.set r (.ov (.one (yA5 b (l ++ [(w, n)])))))) : hoW P ⟨none, .mps (.t r) r 2 (.c (sv w)) (.c (iv n))⟩ F K X := by
 have hput : zSJ b (l.map fun x => mkS x.1) (l.map fun x => .p (bI x.2)) (mkS w) (.p (bI n)) = yA5 b (l ++ [(w, n)]) := by
  unfold zSJ
  rcases zXp l w with ⟨h1, _⟩ | ⟨i, _, _, h3⟩
  ·rw [h1]; simp [yA5]
  ·rw [hw] at h3; cases h3
 have hk : ∀ q ∈ (l.map fun x => mkS x.1), zMZ q = 2 := by
  intro q hq
  obtain ⟨x, _, rfl⟩ := List.mem_map.1 hq
  rfl
 rw [yDG]
 have hm : zQO F (.t r) = some b := by unfold zQO; simp only [zAl, hr]
 unfold zOw
 rw [hm, hr]
 refine ⟨rfl, trivial, rfl, hk, (fun s h => by cases h), trivial, ?_⟩
 change K (F.set r (Ct.ov (OVal.one (zSJ b (l.map fun x => mkS x.1) (l.map fun x => OV.p (bI x.2)) (mkS w) (.p (bI n))))))
 rw [hput]
 exact hK
theorem yCK {d x q r b : Nat} {l : List (Bys × Int)} {w : Bys} {ok : Bool} (hx : F.getD x .un = .mph b) (hr : F.getD r .un = .ov (.one (yA5 b l))) (hq : F.getD q .un = .pv (sv w)) (hK : K (F.set d (if ok then .tup [iv ((zXo l w).getD 0), bv (zXo l w).isSome] else .pv (iv ((zXo l w).getD 0))))) : hoW P ⟨none, .mpl d (.t x) r 2 (.t q) (.v (.int .i64 0)) ok⟩ F K X := by
 have hk : ∀ q ∈ (l.map fun x => mkS x.1), zMZ q = 2 := by
  intro q hq
  obtain ⟨x, _, rfl⟩ := List.mem_map.1 hq
  rfl
 rw [yDH]
 have hm : zQO F (.t x) = some b := by unfold zQO; simp only [zAl, hx]
 have hqv : (zAl F (.t q)).pv? = some (sv w) := by simp only [zAl, hq]; rfl
 have hqn : (zAl F (.t q)).need := by simp only [zAl, hq]; trivial
 unfold zOw
 rw [hm, hr, hqv]
 refine ⟨rfl, hqn, rfl, hk, ?_⟩
 rcases zXp l w with ⟨h1, h2⟩ | ⟨i, h1, h2, h3⟩
 ·rw [h1]
  simp only [zSK]
  rw [h2] at hK
  exact hK
 ·rw [h1]
  have : (l.map fun x => OV.p (bI x.2)).getD i .hole = .p (bI (l.getD i default).2) := by simp [h2]
  simp only [zSK, this]
  rw [h3] at hK
  exact hK
end
theorem zUU {s : Bys} {c : UInt8} (h : zAn s [c] = true) : (zAs s [c]).length + 1 = s.length := by
 have := congrArg List.length (zMk h)
 rw [List.length_cons] at this
 omega
theorem zXq : zWO := fun w h => h.mx
def zBI (f d : Nat) (s : Bys) : RV := match zQH f d s with
 | some (l, r) => { res := .own zB2 2 (zGg l), io := [bS r] }
 | none => { res := .pan xbV }
def zAN (f d : Nat) (s : Bys) : RV := match zIX f d s with
 | some (some t, r) => { res := .tup [.agg (tsV t), bv true], io := [bS r] }
 | some (none, r) => { res := .tup [.agg (tsV (.mk 0 [] [] 0 0 [])), bv false], io := [bS r] }
 | none => { res := .pan xbV }
set_option maxHeartbeats 8000000 in
theorem zT1 (f : Nat) (hL : ∀ (d : Nat) (s : Bys), d ≤ 1000 → s.length ≤ 268435456 → 4 * s.length + 5 ≤ f → Contract Tryz.prog zA7 [.io [bS s], .val (iv d)] (zBI f d s)) (d : Nat) (s : Bys) (hd : d < 1000) (hs : s.length ≤ 268435456) (hf : 4 * s.length + 1 ≤ f + 1) : Contract Tryz.prog zBN [.io [bS s], .val (iv d)] (zAN (f + 1) d s) := by
 have hM := zXq
 refine zJy (base := 87) ⟨Nat.le_of_ble_eq_true rfl, Nat.le_of_ble_eq_true rfl, Nat.le_of_ble_eq_true rfl, ⟨rfl, rfl⟩⟩ (fun hfit => ?_) (fun _ _ => rfl)
 unfold F0 zCX
 simp (maxSteps := 2000000) only [zAS, List.set_cons_succ, List.set_cons_zero, List.map_cons, List.map_nil, zAQ, zAb, ioOf, List.length_cons, List.length_nil, Nat.reduceAdd, Nat.reduceSub, List.replicate, List.cons_append, List.nil_append]
 try simp (maxSteps := 2000000) only [go_sem]
 repeat with_reducible refine zAc ?_
 refine zAf (by repeat' constructor) (zBp s [46]) ?_
 try simp (maxSteps := 2000000) only [go_sem]
 repeat with_reducible refine zAc ?_
 refine zAa (by rfl) trivial (fun h1 => ?_) (fun h1 => ?_)
 ·have hd1 := zMk h1
  have e : zAN (f + 1) d s = { res := .tup [.agg (tsV (.mk 1 (zEC (zAs s [46])) [] 0 0 [])), bv true], io := [bS (nmR (zAs s [46]))] } := by unfold zAN; rw [zIX, if_pos h1]
  rw [e]
  try simp (maxSteps := 2000000) only [go_sem]
  repeat with_reducible refine zAc ?_
  refine zAf (by repeat' constructor) (zCq (zAs s [46])) ?_
  try simp (maxSteps := 2000000) only [go_sem]
  repeat with_reducible refine zAc ?_
  exact zDw (by simp) ⟨zBc rfl rfl (.inr rfl), zBa rfl trivial (.inl rfl), rfl⟩ rfl rfl
 ·have e46 : zAs s [46] = s := by unfold zAs; rw [h1]; rfl
  try simp (maxSteps := 2000000) only [go_sem]
  repeat with_reducible refine zAc ?_
  rw [e46]
  refine zAf (by repeat' constructor) (zBp s [35]) ?_
  try simp (maxSteps := 2000000) only [go_sem]
  repeat with_reducible refine zAc ?_
  refine zAa (by rfl) trivial (fun h2 => ?_) (fun h2 => ?_)
  ·have e : zAN (f + 1) d s = { res := .tup [.agg (tsV (.mk 2 (zEC (zAs s [35])) [] 0 0 [])), bv true], io := [bS (nmR (zAs s [35]))] } := by unfold zAN; rw [zIX, if_neg (by rw [h1]; simp), if_pos h2]
   rw [e]
   try simp (maxSteps := 2000000) only [go_sem]
   repeat with_reducible refine zAc ?_
   refine zAf (by repeat' constructor) (zCq (zAs s [35])) ?_
   try simp (maxSteps := 2000000) only [go_sem]
   repeat with_reducible refine zAc ?_
   exact zDw (by simp) ⟨zBc rfl rfl (.inr rfl), zBa rfl trivial (.inl rfl), rfl⟩ rfl rfl
  ·have e35 : zAs s [35] = s := by unfold zAs; rw [h2]; rfl
   try simp (maxSteps := 2000000) only [go_sem]
   repeat with_reducible refine zAc ?_
   rw [e35]
   refine zAf (by repeat' constructor) (zBp s [91]) ?_
   try simp (maxSteps := 2000000) only [go_sem]
   repeat with_reducible refine zAc ?_
   refine zAa (by rfl) trivial (fun h3 => ?_) (fun h3 => ?_)
   ·have hsl := zMj s [91]
    have hA := zTZ hM (zAs s [91]) (by omega)
    cases ha : zTT (zAs s [91]) with
    | none =>
     have e : zAN (f + 1) d s = { res := .pan xbV } := by unfold zAN; rw [zIX, if_neg (by rw [h1]; simp), if_neg (by rw [h2]; simp), if_pos h3, ha]
     have e2 : zEc (zAs s [91]) = { res := .pan xbV } := by unfold zEc; rw [ha]
     rw [e2] at hA
     rw [e]
     try simp (maxSteps := 2000000) only [go_sem]
     repeat with_reducible refine zAc ?_
     refine zBs (by repeat' constructor) hA ?_
     try simp (maxSteps := 2000000) only [go_sem]
     repeat with_reducible refine zAc ?_
     exact ⟨_, rfl, rfl⟩
    | some tr =>
     obtain ⟨t, r⟩ := tr
     have e : zAN (f + 1) d s = { res := .tup [.agg (tsV t), bv true], io := [bS r] } := by unfold zAN; rw [zIX, if_neg (by rw [h1]; simp), if_neg (by rw [h2]; simp), if_pos h3, ha]
     have e2 : zEc (zAs s [91]) = { res := .val (.agg (tsV t)), io := [bS r] } := by unfold zEc; rw [ha]
     rw [e2] at hA
     rw [e]
     try simp (maxSteps := 2000000) only [go_sem]
     repeat with_reducible refine zAc ?_
     refine zAf (by repeat' constructor) (hA) ?_
     try simp (maxSteps := 2000000) only [go_sem, zC1]
     repeat with_reducible refine zAc ?_
     exact zDw (by simp) ⟨zBc rfl rfl (.inl rfl), zBa rfl trivial (.inl rfl), rfl⟩ rfl rfl
   ·have e91 : zAs s [91] = s := by unfold zAs; rw [h3]; rfl
    try simp (maxSteps := 2000000) only [go_sem]
    repeat with_reducible refine zAc ?_
    rw [e91]
    refine zAf (by repeat' constructor) (zBp s [58]) ?_
    try simp (maxSteps := 2000000) only [go_sem]
    repeat with_reducible refine zAc ?_
    refine zAa (by rfl) trivial (fun h4 => ?_) (fun h4 => ?_)
    ·have h4' : zAn s [58] = false := by simpa using h4
     have e58 : zAs s [58] = s := by unfold zAs; rw [h4']; rfl
     have e : zAN (f + 1) d s = { res := .tup [.agg (tsV (.mk 0 [] [] 0 0 [])), bv false], io := [bS s] } := by unfold zAN; rw [zIX, if_neg (by rw [h1]; simp), if_neg (by rw [h2]; simp), if_neg (by rw [h3]; simp), if_pos h4']
     rw [e]
     try simp (maxSteps := 2000000) only [go_sem]
     repeat with_reducible refine zAc ?_
     rw [e58]
     exact zDw (by simp) ⟨zBc rfl rfl (.inr rfl), zBa rfl trivial (.inl rfl), rfl⟩ rfl rfl
    ·have h4' : zAn s [58] = true := by simpa using h4
     have hsd := zUU h4'
     try simp (maxSteps := 2000000) only [go_sem]
     repeat with_reducible refine zAc ?_
     refine zAf (by repeat' constructor) (zCq (zAs s [58])) ?_
     try simp (maxSteps := 2000000) only [go_sem]
     repeat with_reducible refine zAc ?_
     refine yCJ (fun b => ?_)
     try simp (maxSteps := 2000000) only [go_sem]
     repeat with_reducible refine zAc ?_
     refine zT0 (b := b) (l := []) (w := [101, 109, 112, 116, 121]) (n := 11) rfl rfl ?_
     try simp (maxSteps := 2000000) only [go_sem]
     repeat with_reducible refine zAc ?_
     refine zT0 (b := b) (l := [([101, 109, 112, 116, 121], 11)]) (w := [114, 111, 111, 116]) (n := 12) rfl rfl ?_
     try simp (maxSteps := 2000000) only [go_sem]
     repeat with_reducible refine zAc ?_
     refine yCK (b := b) (l := [([101, 109, 112, 116, 121], 11), ([114, 111, 111, 116], 12)]) (w := zEC (zAs s [58])) rfl rfl rfl ?_
     try simp (maxSteps := 2000000) only [go_sem]
     repeat with_reducible refine zAc ?_
     have hP : zIX (f + 1) d s = zSD (zQH f (d + 1)) (zAs s [58]) := by rw [zIX, if_neg (by rw [h1]; simp), if_neg (by rw [h2]; simp), if_neg (by rw [h3]; simp), if_neg (by rw [h4']; simp)]
     have hnl := zTN (zAs s [58])
     have hg1 : zXo [([101, 109, 112, 116, 121], 11), ([114, 111, 111, 116], 12)] (zEC (zAs s [58])) = (if zEC (zAs s [58]) = [101, 109, 112, 116, 121] then some 11 else if zEC (zAs s [58]) = [114, 111, 111, 116] then some 12 else none) := rfl
     by_cases w1 : zEC (zAs s [58]) = [101, 109, 112, 116, 121]
     ·have e : zAN (f + 1) d s = { res := .tup [.agg (tsV (.mk 11 [] [] 0 0 [])), bv true], io := [bS (nmR (zAs s [58]))] } := by unfold zAN; rw [hP, zSD, if_pos w1]
      rw [if_pos w1] at hg1
      rw [e]
      refine zAa (by rfl) trivial (fun h5 => ?_) (fun h5 => ?_)
      ·try simp (maxSteps := 2000000) only [go_sem, hg1]
       repeat with_reducible refine zAc ?_
       exact zDw (by simp) ⟨zBc rfl rfl (.inr rfl), zBa rfl trivial (.inl rfl), rfl⟩ rfl rfl
      ·rw [hg1] at h5; cases h5
     ·by_cases w2 : zEC (zAs s [58]) = [114, 111, 111, 116]
      ·have e : zAN (f + 1) d s = { res := .tup [.agg (tsV (.mk 12 [] [] 0 0 [])), bv true], io := [bS (nmR (zAs s [58]))] } := by unfold zAN; rw [hP, zSD, if_neg w1, if_pos w2]
       rw [if_neg w1, if_pos w2] at hg1
       rw [e]
       refine zAa (by rfl) trivial (fun h5 => ?_) (fun h5 => ?_)
       ·try simp (maxSteps := 2000000) only [go_sem, hg1]
        repeat with_reducible refine zAc ?_
        exact zDw (by simp) ⟨zBc rfl rfl (.inr rfl), zBa rfl trivial (.inl rfl), rfl⟩ rfl rfl
       ·rw [hg1] at h5; cases h5
      ·rw [if_neg w1, if_neg w2] at hg1
       refine zAa (by rfl) trivial (fun h5 => ?_) (fun h5 => ?_)
       ·rw [hg1] at h5; cases h5
       ·try simp (maxSteps := 2000000) only [go_sem]
        repeat with_reducible refine zAc ?_
        cases hm : zAn (nmR (zAs s [58])) [40] with
        | false =>
         have e : zAN (f + 1) d s = { res := .pan xbV } := by unfold zAN; rw [hP, zSD, if_neg w1, if_neg w2, if_pos hm]
         rw [e]
         refine zBs (by repeat' constructor) (zB7 _ _ hm) ?_
         try simp (maxSteps := 2000000) only [go_sem]
         repeat with_reducible refine zAc ?_
         exact ⟨_, rfl, rfl⟩
        | true =>
         have hmd := zUU hm
         have hP2 : zIX (f + 1) d s = zRW (zQH f (d + 1)) (zFs (zEC (zAs s [58]))) (zAs (nmR (zAs s [58])) [40]) := by rw [hP, zSD, if_neg w1, if_neg w2, if_neg (by rw [hm]; simp)]
         refine zBV (by repeat' constructor) (zD9 _ _ hm) ?_
         try simp (maxSteps := 2000000) only [go_sem]
         repeat with_reducible refine zAc ?_
         refine yCJ (fun b2 => ?_)
         try simp (maxSteps := 2000000) only [go_sem]
         repeat with_reducible refine zAc ?_
         refine zT0 (b := b2) (l := []) (w := [110, 116, 104]) (n := 9) rfl rfl ?_
         try simp (maxSteps := 2000000) only [go_sem]
         repeat with_reducible refine zAc ?_
         refine zT0 (b := b2) (l := [([110, 116, 104], 9)]) (w := [108, 97, 115, 116]) (n := 10) rfl rfl ?_
         try simp (maxSteps := 2000000) only [go_sem]
         repeat with_reducible refine zAc ?_
         refine zT0 (b := b2) (l := [([110, 116, 104], 9), ([108, 97, 115, 116], 10)]) (w := [110, 111, 116]) (n := 13) rfl rfl ?_
         try simp (maxSteps := 2000000) only [go_sem]
         repeat with_reducible refine zAc ?_
         refine zT0 (b := b2) (l := [([110, 116, 104], 9), ([108, 97, 115, 116], 10), ([110, 111, 116], 13)]) (w := [105, 115]) (n := 14) rfl rfl ?_
         try simp (maxSteps := 2000000) only [go_sem]
         repeat with_reducible refine zAc ?_
         refine zT0 (b := b2) (l := [([110, 116, 104], 9), ([108, 97, 115, 116], 10), ([110, 111, 116], 13), ([105, 115], 14)]) (w := [104, 97, 115]) (n := 15) rfl rfl ?_
         try simp (maxSteps := 2000000) only [go_sem]
         repeat with_reducible refine zAc ?_
         refine yCK (b := b2) (l := [([110, 116, 104], 9), ([108, 97, 115, 116], 10), ([110, 111, 116], 13), ([105, 115], 14), ([104, 97, 115], 15)]) (w := zEC (zAs s [58])) rfl rfl rfl ?_
         have hg2 : (zXo [([110, 116, 104], 9), ([108, 97, 115, 116], 10), ([110, 111, 116], 13), ([105, 115], 14), ([104, 97, 115], 15)] (zEC (zAs s [58]))).getD 0 = zFs (zEC (zAs s [58])) := by
          simp only [zXo, zFs]
          split
          ·rfl
          ·split
           ·rfl
           ·split
            ·rfl
            ·split
             ·rfl
             ·split <;> rfl
         rw [hg2]
         try simp (maxSteps := 2000000) only [go_sem]
         repeat with_reducible refine zAc ?_
         refine zAF (by repeat' constructor) (zR2 (zFs (zEC (zAs s [58])))) ?_
         try simp (maxSteps := 2000000) only [go_sem, shV]
         repeat with_reducible refine zAc ?_
         by_cases hk : zFs (zEC (zAs s [58])) = 0
         ·have e : zAN (f + 1) d s = { res := .pan xbV } := by unfold zAN; rw [hP2, hk]; rfl
          rw [e]
          refine zAa (by rfl) trivial (fun h6 => ?_) (fun h6 => ?_)
          ·try simp (maxSteps := 2000000) only [go_sem]
           repeat with_reducible refine zAc ?_
           exact ⟨_, rfl, rfl⟩
          ·rw [hk] at h6; cases h6
         ·obtain ⟨_, k2⟩ := zOe hk
          refine zAa (by rfl) trivial (fun h6 => ?_) (fun h6 => ?_)
          ·exfalso
           rcases k2 with k2 | k2 | k2 | k2 | k2 <;> (rw [k2] at h6; cases h6)
          ·try simp (maxSteps := 2000000) only [go_sem]
           repeat with_reducible refine zAc ?_
           cases hl : zFr (zFs (zEC (zAs s [58]))) with
           | true =>
            refine zAa (by rfl) trivial (fun h7 => ?_) (fun h7 => ?_)
            ·have hc := hL (d + 1) (zAs (nmR (zAs s [58])) [40]) (by omega) (by omega) (by omega)
             cases hr : zQH f (d + 1) (zAs (nmR (zAs s [58])) [40]) with
             | none =>
              have e2 : zBI f (d + 1) (zAs (nmR (zAs s [58])) [40]) = { res := .pan xbV } := by unfold zBI; rw [hr]
              have e : zAN (f + 1) d s = { res := .pan xbV } := by unfold zAN; rw [hP2, zRW, if_neg hk, hl, if_pos rfl, hr]
              rw [e2] at hc
              rw [e]
              try simp (maxSteps := 2000000) only [go_sem]
              repeat with_reducible refine zAc ?_
              refine zBs (by repeat' constructor) hc ?_
              try simp (maxSteps := 2000000) only [go_sem]
              repeat with_reducible refine zAc ?_
              exact ⟨_, rfl, rfl⟩
             | some lr =>
              obtain ⟨l, r⟩ := lr
              have e2 : zBI f (d + 1) (zAs (nmR (zAs s [58])) [40]) = { res := .own zB2 2 (zGg l), io := [bS r] } := by unfold zBI; rw [hr]
              rw [e2] at hc
              try simp (maxSteps := 2000000) only [go_sem]
              repeat with_reducible refine zAc ?_
              refine zUy (by repeat' constructor) (hc) ?_
              try simp (maxSteps := 2000000) only [go_sem]
              repeat with_reducible refine zAc ?_
              cases hq : zAn r [41] with
              | false =>
               have e : zAN (f + 1) d s = { res := .pan xbV } := by unfold zAN; rw [hP2, zRW, if_neg hk, hl, if_pos rfl, hr]; simp only [hq, Bool.false_eq_true, if_false]
               rw [e]
               refine zBs (by repeat' constructor) (zB7 _ _ hq) ?_
               try simp (maxSteps := 2000000) only [go_sem]
               repeat with_reducible refine zAc ?_
               exact ⟨_, rfl, rfl⟩
              | true =>
               have e : zAN (f + 1) d s = { res := .tup [.agg (tsV (.mk (zFs (zEC (zAs s [58]))) [] [] 0 0 l)), bv true], io := [bS (zAs r [41])] } := by unfold zAN; rw [hP2, zRW, if_neg hk, hl, if_pos rfl, hr]; simp only [hq, if_true]
               rw [e]
               refine zBV (by repeat' constructor) (zD9 _ _ hq) ?_
               try simp (maxSteps := 2000000) only [go_sem]
               repeat with_reducible refine zAc ?_
               exact zDw (by simp) ⟨zBc rfl rfl (.inr rfl), zBa rfl trivial (.inl rfl), rfl⟩ rfl rfl
            ·cases h7
           | false =>
            refine zAa (by rfl) trivial (fun h7 => ?_) (fun h7 => ?_)
            ·cases h7
            ·have hcl := (zWP (zAs (nmR (zAs s [58])) [40]) [41])
             try simp (maxSteps := 2000000) only [go_sem]
             repeat with_reducible refine zAc ?_
             cases hq : (Lib.cut (zAs (nmR (zAs s [58])) [40]) [41]).2.2 with
             | false =>
              have e : zAN (f + 1) d s = { res := .pan xbV } := by unfold zAN; rw [hP2, zRW, if_neg hk, hl, if_neg (by simp), hq]; rfl
              rw [e]
              refine zBs (by repeat' constructor) (zFT hM _ [41] (by omega) hq) ?_
              try simp (maxSteps := 2000000) only [go_sem]
              repeat with_reducible refine zAc ?_
              exact ⟨_, rfl, rfl⟩
             | true =>
              refine zAf (by repeat' constructor) (zMw hM _ [41] (by omega) hq) ?_
              try simp (maxSteps := 2000000) only [go_sem]
              repeat with_reducible refine zAc ?_
              have hN := zVF (Lib.cut (zAs (nmR (zAs s [58])) [40]) [41]).1 (by omega)
              cases hro : zEQ (Lib.cut (zAs (nmR (zAs s [58])) [40]) [41]).1 with
              | false =>
               have e : zAN (f + 1) d s = { res := .pan xbV } := by unfold zAN; rw [hP2, zRW, if_neg hk, hl, if_neg (by simp), hq, hro]; rfl
               rw [e]
               rw [hro] at hN
               refine zAF (by repeat' constructor) (hN) ?_
               try simp (maxSteps := 2000000) only [go_sem, zYr]
               repeat with_reducible refine zAc ?_
               refine zAa (by rfl) trivial (fun h8 => ?_) (fun h8 => ?_)
               ·try simp (maxSteps := 2000000) only [go_sem]
                repeat with_reducible refine zAc ?_
                exact ⟨_, rfl, rfl⟩
               ·cases h8
              | true =>
               have e : zAN (f + 1) d s = { res := .tup [.agg (tsV (.mk (zFs (zEC (zAs s [58]))) [] [] (zYs (Lib.cut (zAs (nmR (zAs s [58])) [40]) [41]).1) (zYt (Lib.cut (zAs (nmR (zAs s [58])) [40]) [41]).1) [])), bv true], io := [bS (Lib.cut (zAs (nmR (zAs s [58])) [40]) [41]).2.1] } := by unfold zAN; rw [hP2, zRW, if_neg hk, hl, if_neg (by simp), hq, hro]; rfl
               rw [e]
               rw [hro] at hN
               refine zAF (by repeat' constructor) (hN) ?_
               try simp (maxSteps := 2000000) only [go_sem, zYr]
               repeat with_reducible refine zAc ?_
               refine zAa (by rfl) trivial (fun h8 => ?_) (fun h8 => ?_)
               ·cases h8
               ·try simp (maxSteps := 2000000) only [go_sem]
                repeat with_reducible refine zAc ?_
                exact zDw (by simp) ⟨zBc rfl rfl (.inr rfl), zBa rfl trivial (.inl rfl), rfl⟩ rfl rfl
end Go.Hx
end

section
set_option maxRecDepth 100000
set_option linter.unusedSimpArgs false
namespace Go.Hx
open Go.Proofs Go.RowKit
attribute [local instance] zAZ
attribute [local go_sem] zAw zAu zAv zAm ndV zAq zAl
attribute [local go_sem] reduceCtorEq Nat.reduceAdd Nat.reduceEqDiff reduceIte Nat.reduceLeDiff Nat.reduceLT Nat.reduceSub
theorem zR9 (l : List Ts) (t : Ts) : zUC (l ++ [t]) = zUC l ++ [tsV t] := by simp [zHl]
def zBb (f d : Nat) (s : Bys) : RV := match zPU f d s with
 | some (x, r) => { res := .val (.agg (stV x)), io := [bS r] }
 | none => { res := .pan xbV }
set_option maxHeartbeats 8000000 in
theorem zT2 (f : Nat) (hT : ∀ (g d : Nat) (s : Bys), g < f → d < 1000 → s.length ≤ 268435456 → 4 * s.length + 1 ≤ g → Contract Tryz.prog zBN [.io [bS s], .val (iv d)] (zAN g d s)) (d : Nat) (s : Bys) (hd : d < 1000) (hs : s.length ≤ 268435456) (hf : 4 * s.length + 3 ≤ f + 1) : Contract Tryz.prog zBo [.io [bS s], .val (iv d)] (zBb (f + 1) d s) := by
 have hm0 : maxLen = 9223372036854775807 := rfl
 have hnl := zTN s
 have hsl := zMj (nmR s) [42]
 refine zJH (base := 31) ⟨Nat.le_of_ble_eq_true rfl, Nat.le_of_ble_eq_true rfl, Nat.le_of_ble_eq_true rfl, ⟨rfl, rfl⟩⟩ (fun hfit => ?_) (fun _ _ => rfl)
 unfold F0 zCY
 simp (maxSteps := 2000000) only [zAS, List.set_cons_succ, List.set_cons_zero, List.map_cons, List.map_nil, zAQ, zAb, ioOf, List.length_cons, List.length_nil, Nat.reduceAdd, Nat.reduceSub, List.replicate, List.cons_append, List.nil_append]
 try simp (maxSteps := 2000000) only [go_sem]
 repeat with_reducible refine zAc ?_
 refine zAf (by repeat' constructor) (zCq s) ?_
 try simp (maxSteps := 2000000) only [go_sem]
 repeat with_reducible refine zAc ?_
 by_cases hn : zEC s = []
 ·refine zAa (by rfl) trivial (fun h1 => ?_) (fun h1 => ?_)
  ·try simp (maxSteps := 2000000) only [go_sem]
   repeat with_reducible refine zAc ?_
   cases hm : zAn (nmR s) [42] with
   | false =>
    have e : zBb (f + 1) d s = { res := .pan xbV } := by unfold zBb; rw [zPU, if_pos hn, hm]; rfl
    rw [e]
    refine zBs (by repeat' constructor) (zB7 _ _ hm) ?_
    try simp (maxSteps := 2000000) only [go_sem]
    repeat with_reducible refine zAc ?_
    exact ⟨_, rfl, rfl⟩
   | true =>
    have hE : zPU (f + 1) d s = (match zFS f d (zAs (nmR s) [42]) [] with | some (l, r) => some (.mk [] l, r) | none => none) := by rw [zPU, if_pos hn, hm] <;> rfl
    refine zBV (by repeat' constructor) (zD9 _ _ hm) ?_
    try simp (maxSteps := 2000000) only [go_sem]
    repeat with_reducible refine zAc ?_
    refine zAz (fun x : Nat × List Ts × Bys => [(31, .pv (.one (bS x.2.2))), (34, .pv (.one (bS (zEC s)))), (35, .own zFj 6 (zUC x.2.1)), (6, .un), (7, .un), (23, .un), (32, .un), (33, .un), (36, .un), (37, .un), (38, .un), (39, .un), (40, .un), (41, .un)]) (fun x : Nat × List Ts × Bys => x.1) (fun x : Nat × List Ts × Bys => 4 * x.2.2.length + 2 ≤ x.1 ∧ x.1 ≤ f ∧ x.2.1.length + x.2.2.length ≤ s.length ∧ zFS x.1 d x.2.2 x.2.1 = zFS f d (zAs (nmR s) [42]) []) ((f, [], zAs (nmR s) [42])) ?_ ⟨by simp only; omega, Nat.le_refl _, by simp; omega, rfl⟩ ?_
    focus (simp (maxSteps := 2000000) only [go_sem, zAg, zAo, zAB, zAd]; all_goals (repeat' (first | exact trivial | exact zAj (by omega) | exact zAi rfl | exact zAx rfl | exact zAp | exact le_refl _ | refine And.intro ?_ ?_)))
    rintro ⟨g, ts, r⟩ ⟨k1, k2, k3, k4⟩
    simp only at k1 k2 k3 k4
    obtain ⟨g', rfl⟩ : ∃ g', g = g' + 1 := ⟨g - 1, by omega⟩
    have hc := hT g' d r (by omega) hd (by omega) (by omega)
    rw [zFS] at k4
    cases ht : zIX g' d r with
    | none =>
     rw [ht] at k4
     have e2 : zAN g' d r = { res := .pan xbV } := by unfold zAN; rw [ht]
     have e : zBb (f + 1) d s = { res := .pan xbV } := by unfold zBb; rw [hE, ← k4]
     rw [e2] at hc
     rw [e]
     try simp (maxSteps := 2000000) only [go_sem, zAU]
     repeat with_reducible refine zAc ?_
     refine zBs (by repeat' constructor) hc ?_
     try simp (maxSteps := 2000000) only [go_sem]
     repeat with_reducible refine zAc ?_
     exact ⟨_, rfl, rfl⟩
    | some tr =>
     obtain ⟨o, r'⟩ := tr
     rw [ht] at k4
     cases o with
     | none =>
      simp only at k4
      have e2 : zAN g' d r = { res := .tup [.agg (tsV (.mk 0 [] [] 0 0 [])), bv false], io := [bS r'] } := by unfold zAN; rw [ht]
      have e : zBb (f + 1) d s = { res := .val (.agg (stV (.mk (zEC s) ts))), io := [bS r'] } := by unfold zBb; rw [hE, ← k4]; simp only [hn]
      rw [e2] at hc
      rw [e]
      try simp (maxSteps := 2000000) only [go_sem, zAU]
      repeat with_reducible refine zAc ?_
      refine zAF (by repeat' constructor) (hc) ?_
      try simp (maxSteps := 2000000) only [go_sem, zC1]
      repeat with_reducible refine zAc ?_
      refine zAa (by rfl) trivial (fun h5 => ?_) (fun h5 => ?_)
      ·try simp (maxSteps := 2000000) only [go_sem]
       repeat with_reducible refine zAc ?_
       exact zMo rfl rfl rfl rfl rfl
      ·cases h5
     | some t =>
      simp only at k4
      have e2 : zAN g' d r = { res := .tup [.agg (tsV t), bv true], io := [bS r'] } := by unfold zAN; rw [ht]
      have hlen : r'.length + 1 ≤ r.length := by
       have h1 := (zD8 g').1 _ _ _ _ ht
       obtain ⟨c, q, e3, _⟩ := zHo t
       rw [h1, e3]
       simp only [List.cons_append, List.length_cons, List.length_append]
       omega
      rw [e2] at hc
      try simp (maxSteps := 2000000) only [go_sem, zAU]
      repeat with_reducible refine zAc ?_
      refine zAF (by repeat' constructor) (hc) ?_
      try simp (maxSteps := 2000000) only [go_sem, zC1, zAU]
      repeat with_reducible refine zAc ?_
      refine zAa (by rfl) trivial (fun h5 => ?_) (fun h5 => ?_)
      ·cases h5
      ·try simp (maxSteps := 2000000) only [go_sem, zAU]
       repeat with_reducible refine zAc ?_
       refine ⟨(g', ts ++ [t], r'), by simp only; omega, ⟨by simp only; omega, by simp only; omega, by simp only [List.length_append, List.length_cons, List.length_nil]; omega, k4⟩, ?_⟩
       simp (maxSteps := 2000000) only [go_sem, zAg, zAo, zAB, zAd]
       all_goals (repeat' (first | exact trivial | exact zAj (by omega) | exact zAi rfl | exact zAx rfl | exact zAp | exact le_refl _ | refine And.intro ?_ ?_))
       all_goals first | exact zAd | exact zAx (by rw [zR9, zC1]) | rfl
  ·rw [hn] at h1; cases h1
 ·refine zAa (by rfl) trivial (fun h1 => ?_) (fun h1 => ?_)
  ·exfalso; exact hn (by simpa using h1)
  ·have hE : zPU (f + 1) d s = (match zFS f d (nmR s) [] with | some (l, r) => some (.mk (zEC s) l, r) | none => none) := by rw [zPU, if_neg hn] <;> rfl
   try simp (maxSteps := 2000000) only [go_sem]
   repeat with_reducible refine zAc ?_
   refine zAz (fun x : Nat × List Ts × Bys => [(31, .pv (.one (bS x.2.2))), (34, .pv (.one (bS (zEC s)))), (35, .own zFj 6 (zUC x.2.1)), (6, .un), (7, .un), (23, .un), (32, .un), (33, .un), (36, .un), (37, .un), (38, .un), (39, .un), (40, .un), (41, .un)]) (fun x : Nat × List Ts × Bys => x.1) (fun x : Nat × List Ts × Bys => 4 * x.2.2.length + 2 ≤ x.1 ∧ x.1 ≤ f ∧ x.2.1.length + x.2.2.length ≤ s.length ∧ zFS x.1 d x.2.2 x.2.1 = zFS f d (nmR s) []) ((f, [], nmR s)) ?_ ⟨by simp only; omega, Nat.le_refl _, by simp; omega, rfl⟩ ?_
   focus (simp (maxSteps := 2000000) only [go_sem, zAg, zAo, zAB, zAd]; all_goals (repeat' (first | exact trivial | exact zAj (by omega) | exact zAi rfl | exact zAx rfl | exact zAp | exact le_refl _ | refine And.intro ?_ ?_)))
   rintro ⟨g, ts, r⟩ ⟨k1, k2, k3, k4⟩
   simp only at k1 k2 k3 k4
   obtain ⟨g', rfl⟩ : ∃ g', g = g' + 1 := ⟨g - 1, by omega⟩
   have hc := hT g' d r (by omega) hd (by omega) (by omega)
   rw [zFS] at k4
   cases ht : zIX g' d r with
   | none =>
    rw [ht] at k4
    have e2 : zAN g' d r = { res := .pan xbV } := by unfold zAN; rw [ht]
    have e : zBb (f + 1) d s = { res := .pan xbV } := by unfold zBb; rw [hE, ← k4]
    rw [e2] at hc
    rw [e]
    try simp (maxSteps := 2000000) only [go_sem, zAU]
    repeat with_reducible refine zAc ?_
    refine zBs (by repeat' constructor) hc ?_
    try simp (maxSteps := 2000000) only [go_sem]
    repeat with_reducible refine zAc ?_
    exact ⟨_, rfl, rfl⟩
   | some tr =>
    obtain ⟨o, r'⟩ := tr
    rw [ht] at k4
    cases o with
    | none =>
     simp only at k4
     have e2 : zAN g' d r = { res := .tup [.agg (tsV (.mk 0 [] [] 0 0 [])), bv false], io := [bS r'] } := by unfold zAN; rw [ht]
     have e : zBb (f + 1) d s = { res := .val (.agg (stV (.mk (zEC s) ts))), io := [bS r'] } := by unfold zBb; rw [hE, ← k4]
     rw [e2] at hc
     rw [e]
     try simp (maxSteps := 2000000) only [go_sem, zAU]
     repeat with_reducible refine zAc ?_
     refine zAF (by repeat' constructor) (hc) ?_
     try simp (maxSteps := 2000000) only [go_sem, zC1]
     repeat with_reducible refine zAc ?_
     refine zAa (by rfl) trivial (fun h5 => ?_) (fun h5 => ?_)
     ·try simp (maxSteps := 2000000) only [go_sem]
      repeat with_reducible refine zAc ?_
      exact zMo rfl rfl rfl rfl rfl
     ·cases h5
    | some t =>
     simp only at k4
     have e2 : zAN g' d r = { res := .tup [.agg (tsV t), bv true], io := [bS r'] } := by unfold zAN; rw [ht]
     have hlen : r'.length + 1 ≤ r.length := by
      have h1 := (zD8 g').1 _ _ _ _ ht
      obtain ⟨c, q, e3, _⟩ := zHo t
      rw [h1, e3]
      simp only [List.cons_append, List.length_cons, List.length_append]
      omega
     rw [e2] at hc
     try simp (maxSteps := 2000000) only [go_sem, zAU]
     repeat with_reducible refine zAc ?_
     refine zAF (by repeat' constructor) (hc) ?_
     try simp (maxSteps := 2000000) only [go_sem, zC1, zAU]
     repeat with_reducible refine zAc ?_
     refine zAa (by rfl) trivial (fun h5 => ?_) (fun h5 => ?_)
     ·cases h5
     ·try simp (maxSteps := 2000000) only [go_sem, zAU]
      repeat with_reducible refine zAc ?_
      refine ⟨(g', ts ++ [t], r'), by simp only; omega, ⟨by simp only; omega, by simp only; omega, by simp only [List.length_append, List.length_cons, List.length_nil]; omega, k4⟩, ?_⟩
      simp (maxSteps := 2000000) only [go_sem, zAg, zAo, zAB, zAd]
      all_goals (repeat' (first | exact trivial | exact zAj (by omega) | exact zAi rfl | exact zAx rfl | exact zAp | exact le_refl _ | refine And.intro ?_ ?_))
      all_goals first | exact zAd | exact zAx (by rw [zR9, zC1]) | rfl
end Go.Hx
end
