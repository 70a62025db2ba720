/-
  Walks of functions of the program over an abstract layer, and the laws that they use: each contract says what the function computes, for every input that its conditions let by. No other condition.
-/
import Derived.Test.YtjnagiaooecklaaDoorG8
set_option linter.all false
section
/-
  Plainer lists of paths, as plain Lean data: the same lists, the first ones of equals, a list made plainer, how much it weighs. No condition.
-/
namespace Go.Hx

theorem St.tests_mk (t : Bys) (l : List Ts) : (St.mk t l).tests = l := rfl
theorem St.tag_mk (t : Bys) (l : List Ts) : (St.mk t l).tag = t := rfl

/-! ### The same -/

mutual
def sameT : Ts → Ts → Bool
  | .mk k n v a b l, t => k == t.kind && (n == t.name) && (v == t.value) && (a == t.na && b == t.nb) && samePs l t.list
def sameTs : List Ts → List Ts → Bool
  | [], [] => true
  | t :: r, t' :: r' => sameT t t' && sameTs r r'
  | _, _ => false
def sameS : St → St → Bool
  | .mk t l, s => (t == s.tag) && sameTs l s.tests
def sameSs : List St → List St → Bool
  | [], [] => true
  | t :: r, t' :: r' => sameS t t' && sameSs r r'
  | _, _ => false
def sameP : Pt → Pt → Bool
  | .mk s l, p => (l == p.links) && sameSs s p.steps
def samePs : List Pt → List Pt → Bool
  | [], [] => true
  | t :: r, t' :: r' => sameP t t' && samePs r r'
  | _, _ => false
end

mutual
theorem sameT_iff : ∀ (t u : Ts), sameT t u = true ↔ t = u
  | .mk k n v a b l, .mk k' n' v' a' b' l' => by
    have h := samePs_iff l l'
    simp only [sameT, Ts.kind, Ts.name, Ts.value, Ts.na, Ts.nb, Ts.list, Bool.and_eq_true, beq_iff_eq, h, Ts.mk.injEq]
    grind
theorem sameTs_iff : ∀ (t u : List Ts), sameTs t u = true ↔ t = u
  | [], [] => by simp [sameTs]
  | t :: r, t' :: r' => by
    have h := sameT_iff t t'
    have h2 := sameTs_iff r r'
    simp only [sameTs, Bool.and_eq_true, h, h2, List.cons.injEq]
  | [], t :: r => by simp [sameTs]
  | t :: r, [] => by simp [sameTs]
theorem sameS_iff : ∀ (t u : St), sameS t u = true ↔ t = u
  | .mk t l, .mk t' l' => by
    have h := sameTs_iff l l'
    simp only [sameS, St.tag, St.tests, Bool.and_eq_true, beq_iff_eq, h, St.mk.injEq]
theorem sameSs_iff : ∀ (t u : List St), sameSs t u = true ↔ t = u
  | [], [] => by simp [sameSs]
  | t :: r, t' :: r' => by
    have h := sameS_iff t t'
    have h2 := sameSs_iff r r'
    simp only [sameSs, Bool.and_eq_true, h, h2, List.cons.injEq]
  | [], t :: r => by simp [sameSs]
  | t :: r, [] => by simp [sameSs]
theorem sameP_iff : ∀ (t u : Pt), sameP t u = true ↔ t = u
  | .mk s l, .mk s' l' => by
    have h := sameSs_iff s s'
    simp only [sameP, Pt.steps, Pt.links, Bool.and_eq_true, beq_iff_eq, h, Pt.mk.injEq]
    grind
theorem samePs_iff : ∀ (t u : List Pt), samePs t u = true ↔ t = u
  | [], [] => by simp [samePs]
  | t :: r, t' :: r' => by
    have h := sameP_iff t t'
    have h2 := samePs_iff r r'
    simp only [samePs, Bool.and_eq_true, h, h2, List.cons.injEq]
  | [], t :: r => by simp [samePs]
  | t :: r, [] => by simp [samePs]
end
theorem sameT_eq (t u : Ts) : sameT t u = (t.kind == u.kind && (t.name == u.name) && (t.value == u.value) && (t.na == u.na && t.nb == u.nb) && samePs t.list u.list) := by cases t; simp only [sameT, Ts.kind, Ts.name, Ts.value, Ts.na, Ts.nb, Ts.list]
theorem sameS_eq (t u : St) : sameS t u = ((t.tag == u.tag) && sameTs t.tests u.tests) := by cases t; simp only [sameS, St.tag, St.tests]
theorem sameP_eq (t u : Pt) : sameP t u = ((t.links == u.links) && sameSs t.steps u.steps) := by cases t; simp only [sameP, Pt.steps, Pt.links]
theorem sameT_comm (t u : Ts) : sameT t u = sameT u t := by
  rw [Bool.eq_iff_iff, sameT_iff, sameT_iff]; exact eq_comm
theorem sameP_comm (t u : Pt) : sameP t u = sameP u t := by
  rw [Bool.eq_iff_iff, sameP_iff, sameP_iff]; exact eq_comm
theorem sameTs_len {t u : List Ts} (h : t.length ≠ u.length) : sameTs t u = false := by
  cases hs : sameTs t u with
  | false => rfl
  | true => rw [sameTs_iff] at hs; exact (h (by rw [hs])).elim
theorem sameSs_len {t u : List St} (h : t.length ≠ u.length) : sameSs t u = false := by
  cases hs : sameSs t u with
  | false => rfl
  | true => rw [sameSs_iff] at hs; exact (h (by rw [hs])).elim
theorem samePs_len {t u : List Pt} (h : t.length ≠ u.length) : samePs t u = false := by
  cases hs : samePs t u with
  | false => rfl
  | true => rw [samePs_iff] at hs; exact (h (by rw [hs])).elim

/-! ### The first ones of equals -/

section
variable {α : Type} (eq : α → α → Bool)
/-- One more, if it is not there. -/
def addNew (out : List α) (x : α) : List α := if out.any (fun y => eq x y) then out else out ++ [x]
def firsts (l : List α) : List α := l.foldl (addNew eq) []
theorem firsts_take (l : List α) (i : Nat) (h : i < l.length) : firsts eq (l.take (i + 1)) = addNew eq (firsts eq (l.take i)) l[i] := by
  unfold firsts
  rw [List.take_succ_eq_append_getElem h, List.foldl_append]; rfl
theorem addNew_len (out : List α) (x : α) : (addNew eq out x).length ≤ out.length + 1 := by unfold addNew; split <;> simp
theorem foldl_len : ∀ (l out : List α), (l.foldl (addNew eq) out).length ≤ out.length + l.length
  | [], out => by simp
  | x :: r, out => by
    have h := foldl_len r (addNew eq out x)
    have h2 := addNew_len eq out x
    simp only [List.foldl_cons, List.length_cons]
    omega
theorem firsts_len (l : List α) : (firsts eq l).length ≤ l.length := by
  have h := foldl_len eq l []
  simpa [firsts] using h
theorem foldl_mem : ∀ (l out : List α) (x : α), x ∈ l.foldl (addNew eq) out → x ∈ out ∨ x ∈ l
  | [], out, x, h => .inl h
  | y :: r, out, x, h => by
    rcases foldl_mem r _ x h with h | h
    · unfold addNew at h
      split at h
      · exact .inl h
      · rcases List.mem_append.1 h with h | h
        · exact .inl h
        · simp at h; subst h; exact .inr List.mem_cons_self
    · exact .inr (List.mem_cons_of_mem _ h)
theorem firsts_mem {l : List α} {x : α} (h : x ∈ firsts eq l) : x ∈ l := by
  rcases foldl_mem eq l [] x h with h | h
  · cases h
  · exact h
/-- Whatever lies ahead of it: is it there? That the first ones of equals tell too. -/
theorem foldl_any (he : ∀ x y, eq x y = true ↔ x = y) (x : α) : ∀ (l out : List α), (l.foldl (addNew eq) out).any (fun y => eq x y) = (out ++ l).any (fun y => eq x y)
  | [], out => by simp
  | y :: r, out => by
    rw [List.foldl_cons, foldl_any he x r]
    simp only [List.any_append, List.any_cons]
    unfold addNew
    split
    · rename_i h
      by_cases hxy : eq x y = true
      · have := (he x y).1 hxy
        subst this
        simp [h]
      · simp [hxy]
    · simp only [List.any_append, List.any_cons, List.any_nil, Bool.or_false, Bool.or_assoc]
theorem firsts_any (he : ∀ x y, eq x y = true ↔ x = y) (x : α) (l : List α) : (firsts eq l).any (fun y => eq x y) = l.any (fun y => eq x y) := by
  have h := foldl_any eq he x l []
  simpa [firsts] using h
end

/-! ### A list made plainer -/

/-- The one step of a list's one path. -/
def single : List Pt → Option St
  | [p] => match p.steps with
    | [x] => some x
    | _ => none
  | _ => none
/-- Not a not of one. -/
def notNot (t : Ts) (x : St) : Option Ts := if t.kind = 13 ∧ x.tag = [] then match x.tests with
    | [u] => if u.kind = 13 then some u else none
    | _ => none
  else none
/-- One test of a step, whose list is made plainer: r behind it. -/
def flat1 (o : St) (t : Ts) (r : Nat) : St := match single t.list with
  | none => .mk o.tag (o.tests ++ [t])
  | some x => match notNot t x with
    | some u => .mk o.tag (o.tests ++ [.mk 14 [] [] 0 0 u.list])
    | none => if t.kind = 14 ∧ (x.tag = [] ∨ o.tag = [] ∨ x.tag = o.tag) ∧ o.tests.length + x.tests.length + r ≤ 6 then
        .mk (if o.tag = [] then x.tag else o.tag) (o.tests ++ x.tests)
      else .mk o.tag (o.tests ++ [t])
def flatT : St → List Ts → St
  | o, [] => o
  | o, t :: r => flatT (flat1 o t r.length) r
/-- A step whose tests' lists are made plainer. -/
def onceS (s : St) : St := .mk (flatT (.mk s.tag []) s.tests).tag (firsts sameT (flatT (.mk s.tag []) s.tests).tests)
mutual
def onPs : List Pt → List Pt
  | [] => []
  | p :: r => onP p :: onPs r
def onP : Pt → Pt
  | .mk s l => .mk (onSs s) l
def onSs : List St → List St
  | [] => []
  | s :: r => onS s :: onSs r
def onS : St → St
  | .mk t l => onceS (.mk t (onTs l))
def onTs : List Ts → List Ts
  | [] => []
  | t :: r => onT t :: onTs r
def onT : Ts → Ts
  | .mk k n v a b l => .mk k n v a b (firsts sameP (onPs l))
end
def onL (l : List Pt) : List Pt := firsts sameP (onPs l)
theorem onPs_map : ∀ l, onPs l = l.map onP
  | [] => rfl
  | p :: r => by simp only [onPs, List.map_cons, onPs_map r]
theorem onSs_map : ∀ l, onSs l = l.map onS
  | [] => rfl
  | p :: r => by simp only [onSs, List.map_cons, onSs_map r]
theorem onTs_map : ∀ l, onTs l = l.map onT
  | [] => rfl
  | p :: r => by simp only [onTs, List.map_cons, onTs_map r]
theorem onP_eq (p : Pt) : onP p = .mk (onSs p.steps) p.links := by cases p; rfl
theorem onS_eq (s : St) : onS s = onceS (.mk s.tag (onTs s.tests)) := by cases s; rfl
theorem onT_eq (t : Ts) : onT t = .mk t.kind t.name t.value t.na t.nb (onL t.list) := by cases t; rfl

/-! ### How great it is -/

mutual
def pzPs : List Pt → Nat
  | [] => 0
  | p :: r => pzP p + pzPs r
def pzP : Pt → Nat
  | .mk s _ => pzSs s
def pzSs : List St → Nat
  | [] => 0
  | s :: r => pzS s + pzSs r
def pzS : St → Nat
  | .mk _ l => 1 + pzTs l
def pzTs : List Ts → Nat
  | [] => 0
  | t :: r => pzT t + pzTs r
def pzT : Ts → Nat
  | .mk _ _ _ _ _ l => 1 + pzPs l
end
def pzB : Nat → Nat
  | 0 => 0
  | f + 1 => 5 * (5 * (1 + 6 * (1 + pzB f)))
mutual
theorem pz_Ps : ∀ (l : List Pt) (f : Nat), f ≤ 3 → tmPs l (3 - f) = false → bfPs l = false → pzPs l ≤ l.length * (5 * (1 + 6 * (1 + pzB f)))
  | [], f, _, _, _ => by simp [pzPs]
  | p :: r, f, hf, h, g => by
    simp only [tmPs, bfPs, Bool.or_eq_false_iff] at h g
    have h1 := pz_P p f hf h.1 g.1
    have h2 := pz_Ps r f hf h.2 g.2
    simp only [pzPs, List.length_cons, Nat.add_mul]
    omega
theorem pz_P : ∀ (p : Pt) (f : Nat), f ≤ 3 → tmP p (3 - f) = false → bfP p = false → pzP p ≤ 5 * (1 + 6 * (1 + pzB f))
  | .mk s l, f, hf, h, g => by
    simp only [tmP, bfP, Bool.or_eq_false_iff, Bool.not_eq_false', decide_eq_true_eq, decide_eq_false_iff_not] at h g
    have h1 := pz_Ss s f hf h.2 g
    have h2 : s.length * (1 + 6 * (1 + pzB f)) ≤ 5 * (1 + 6 * (1 + pzB f)) := Nat.mul_le_mul_right _ (by omega)
    simp only [pzP]
    omega
theorem pz_Ss : ∀ (l : List St) (f : Nat), f ≤ 3 → tmSs l (3 - f) = false → bfSs l = false → pzSs l ≤ l.length * (1 + 6 * (1 + pzB f))
  | [], f, _, _, _ => by simp [pzSs]
  | p :: r, f, hf, h, g => by
    simp only [tmSs, bfSs, Bool.or_eq_false_iff] at h g
    have h1 := pz_S p f hf h.1 g.1
    have h2 := pz_Ss r f hf h.2 g.2
    simp only [pzSs, List.length_cons, Nat.add_mul, Nat.one_mul]
    omega
theorem pz_S : ∀ (p : St) (f : Nat), f ≤ 3 → tmS p (3 - f) = false → bfS p = false → pzS p ≤ 1 + 6 * (1 + pzB f)
  | .mk t l, f, hf, h, g => by
    simp only [tmS, bfS, Bool.or_eq_false_iff, decide_eq_false_iff_not] at h g
    have h1 := pz_Ts l f hf h.2 g.2
    have h2 : l.length * (1 + pzB f) ≤ 6 * (1 + pzB f) := Nat.mul_le_mul_right _ (by omega)
    simp only [pzS]
    omega
theorem pz_Ts : ∀ (l : List Ts) (f : Nat), f ≤ 3 → tmTs l (3 - f) = false → bfTs l = false → pzTs l ≤ l.length * (1 + pzB f)
  | [], f, _, _, _ => by simp [pzTs]
  | p :: r, f, hf, h, g => by
    simp only [tmTs, bfTs, Bool.or_eq_false_iff] at h g
    have h1 := pz_T p f hf h.1 g.1
    have h2 := pz_Ts r f hf h.2 g.2
    simp only [pzTs, List.length_cons, Nat.add_mul, Nat.one_mul]
    omega
theorem pz_T : ∀ (p : Ts) (f : Nat), f ≤ 3 → tmT p (3 - f) = false → bfT p = false → pzT p ≤ 1 + pzB f
  | .mk k n v a b l, f, hf, h, g => by
    simp only [tmT, bfT, Bool.or_eq_false_iff] at h g
    simp only [pzT]
    by_cases hk : kList k = true
    · rw [hk] at h g
      simp only [Bool.true_and, Bool.or_eq_false_iff, decide_eq_false_iff_not, Bool.not_eq_false', decide_eq_true_eq] at h g
      obtain ⟨f', rfl⟩ : ∃ f', f = f' + 1 := ⟨f - 1, by omega⟩
      rw [show 3 - (f' + 1) + 1 = 3 - f' by omega] at h
      have h1 := pz_Ps l f' (by omega) h.2 g.2
      have h2 : l.length * (5 * (1 + 6 * (1 + pzB f'))) ≤ 5 * (5 * (1 + 6 * (1 + pzB f'))) := Nat.mul_le_mul_right _ (by omega)
      simp only [pzB]
      omega
    · have hk2 : kList k = false := by simpa using hk
      have hl : l.length = 0 := by
        have := g.1.2
        simp only [fmT3, Ts.kind, Ts.list, hk2, Bool.not_false, Bool.true_and, Bool.or_eq_false_iff, decide_eq_false_iff_not] at this
        have h9 := this.2
        rcases Nat.eq_zero_or_pos l.length with h10 | h10
        · exact h10
        · exact absurd h10 (of_decide_eq_false h9)
      have : l = [] := List.eq_nil_of_length_eq_zero hl
      subst this
      simp [pzPs]
end
theorem pz_le (l : List Pt) (h : checkL l = 0) : pzPs l ≤ 10000000 := by
  unfold checkL at h
  split at h; · cases h
  rename_i h1
  split at h; · cases h
  split at h; · cases h
  rename_i h3
  have h1' : tmL l 1 = false := eq_false_of_ne_true h1
  have h3' : bfPs l = false := eq_false_of_ne_true h3
  simp only [tmL, Bool.or_eq_false_iff, Bool.not_eq_false', decide_eq_true_eq] at h1'
  have := pz_Ps l 2 (by omega) h1'.2 h3'
  have h2 : l.length * (5 * (1 + 6 * (1 + pzB 2))) ≤ 5 * (5 * (1 + 6 * (1 + pzB 2))) := Nat.mul_le_mul_right _ (by omega)
  have h4 : 5 * (5 * (1 + 6 * (1 + pzB 2))) ≤ 10000000 := by decide
  omega

/-! ### No list in it is long -/

mutual
def shPs : List Pt → Bool
  | [] => true
  | p :: r => shP p && shPs r
def shP : Pt → Bool
  | .mk s l => decide (s.length ≤ 6) && decide (l.length ≤ 6) && shSs s
def shSs : List St → Bool
  | [] => true
  | s :: r => shS s && shSs r
def shS : St → Bool
  | .mk _ l => decide (l.length ≤ 6) && shTs l
def shTs : List Ts → Bool
  | [] => true
  | t :: r => shT t && shTs r
def shT : Ts → Bool
  | .mk _ _ _ _ _ l => decide (l.length ≤ 6) && shPs l
end
def shL (l : List Pt) : Bool := decide (l.length ≤ 6) && shPs l
theorem shP_eq (p : Pt) : shP p = (decide (p.steps.length ≤ 6) && decide (p.links.length ≤ 6) && shSs p.steps) := by cases p; rfl
theorem shS_eq (p : St) : shS p = (decide (p.tests.length ≤ 6) && shTs p.tests) := by cases p; rfl
theorem shT_eq (p : Ts) : shT p = shL p.list := by cases p; rfl
theorem shPs_iff : ∀ l, shPs l = true ↔ ∀ p ∈ l, shP p = true
  | [] => by simp [shPs]
  | p :: r => by simp [shPs, shPs_iff r]
theorem shSs_iff : ∀ l, shSs l = true ↔ ∀ p ∈ l, shS p = true
  | [] => by simp [shSs]
  | p :: r => by simp [shSs, shSs_iff r]
theorem shTs_iff : ∀ l, shTs l = true ↔ ∀ p ∈ l, shT p = true
  | [] => by simp [shTs]
  | p :: r => by simp [shTs, shTs_iff r]
mutual
theorem sh_Ps : ∀ (l : List Pt) (d : Nat), tmPs l d = false → bfPs l = false → shPs l = true
  | [], d, _, _ => rfl
  | p :: r, d, h, g => by
    simp only [tmPs, bfPs, Bool.or_eq_false_iff] at h g
    simp only [shPs, sh_P p d h.1 g.1, sh_Ps r d h.2 g.2, Bool.and_self]
theorem sh_P : ∀ (p : Pt) (d : Nat), tmP p d = false → bfP p = false → shP p = true
  | .mk s l, d, h, g => by
    simp only [tmP, bfP, Bool.or_eq_false_iff, Bool.not_eq_false', decide_eq_true_eq, decide_eq_false_iff_not] at h g
    simp only [shP, sh_Ss s d h.2 g, Bool.and_true, Bool.and_eq_true, decide_eq_true_eq]
    omega
theorem sh_Ss : ∀ (l : List St) (d : Nat), tmSs l d = false → bfSs l = false → shSs l = true
  | [], d, _, _ => rfl
  | p :: r, d, h, g => by
    simp only [tmSs, bfSs, Bool.or_eq_false_iff] at h g
    simp only [shSs, sh_S p d h.1 g.1, sh_Ss r d h.2 g.2, Bool.and_self]
theorem sh_S : ∀ (p : St) (d : Nat), tmS p d = false → bfS p = false → shS p = true
  | .mk t l, d, h, g => by
    simp only [tmS, bfS, Bool.or_eq_false_iff, decide_eq_false_iff_not] at h g
    simp only [shS, sh_Ts l d h.2 g.2, Bool.and_true, decide_eq_true_eq]
    omega
theorem sh_Ts : ∀ (l : List Ts) (d : Nat), tmTs l d = false → bfTs l = false → shTs l = true
  | [], d, _, _ => rfl
  | p :: r, d, h, g => by
    simp only [tmTs, bfTs, Bool.or_eq_false_iff] at h g
    simp only [shTs, sh_T p d h.1 g.1, sh_Ts r d h.2 g.2, Bool.and_self]
theorem sh_T : ∀ (p : Ts) (d : Nat), tmT p d = false → bfT p = false → shT p = true
  | .mk k n v a b l, d, h, g => by
    simp only [tmT, bfT, Bool.or_eq_false_iff] at h g
    simp only [shT, Bool.and_eq_true, decide_eq_true_eq]
    by_cases hk : kList k = true
    · rw [hk] at h g
      simp only [Bool.true_and, Bool.or_eq_false_iff, decide_eq_false_iff_not, Bool.not_eq_false', decide_eq_true_eq] at h g
      exact ⟨by omega, sh_Ps l (d + 1) h.2 g.2⟩
    · have hk2 : kList k = false := by simpa using hk
      have hl : l.length = 0 := by
        have := g.1.2
        simp only [fmT3, Ts.kind, Ts.list, hk2, Bool.not_false, Bool.true_and, Bool.or_eq_false_iff, decide_eq_false_iff_not] at this
        have h9 := this.2
        rcases Nat.eq_zero_or_pos l.length with h10 | h10
        · exact h10
        · exact absurd h10 (of_decide_eq_false h9)
      have : l = [] := List.eq_nil_of_length_eq_zero hl
      subst this
      simp [shPs]
end
theorem sh_of (l : List Pt) (h : checkL l = 0) : shL l = true := by
  unfold checkL at h
  split at h; · cases h
  rename_i h1
  split at h; · cases h
  split at h; · cases h
  rename_i h3
  have h1' : tmL l 1 = false := eq_false_of_ne_true h1
  have h3' : bfPs l = false := eq_false_of_ne_true h3
  simp only [tmL, Bool.or_eq_false_iff, Bool.not_eq_false', decide_eq_true_eq] at h1'
  simp only [shL, Bool.and_eq_true, decide_eq_true_eq]
  exact ⟨by omega, sh_Ps l 1 h1'.2 h3'⟩

/-! ### It stays so -/

theorem single_some {l : List Pt} {x : St} (h : single l = some x) : ∃ lk, l = [.mk [x] lk] := by
  unfold single at h
  split at h
  · rename_i p
    cases p with
    | mk s lk =>
      simp only [Pt.steps] at h
      split at h
      · injection h with h; subst h; exact ⟨lk, rfl⟩
      · cases h
  · cases h
theorem notNot_some {t u : Ts} {x : St} (h : notNot t x = some u) : t.kind = 13 ∧ x = .mk [] [u] ∧ u.kind = 13 := by
  unfold notNot at h
  split at h
  · rename_i hk
    cases x with
    | mk tg l =>
      simp only [St.tests] at h
      split at h
      · split at h
        · injection h with h; subst h
          rename_i hu
          have : tg = [] := hk.2
          subst this
          exact ⟨hk.1, rfl, hu⟩
        · cases h
      · cases h
  · cases h
/-- How one test may be laid down. -/
theorem flat1_cases (o : St) (t : Ts) (r : Nat) : flat1 o t r = .mk o.tag (o.tests ++ [t]) ∨
    (∃ u lk, t.kind = 13 ∧ t.list = [.mk [.mk [] [u]] lk] ∧ u.kind = 13 ∧ flat1 o t r = .mk o.tag (o.tests ++ [.mk 14 [] [] 0 0 u.list])) ∨
    (∃ x lk, t.list = [.mk [x] lk] ∧ o.tests.length + x.tests.length + r ≤ 6 ∧ flat1 o t r = .mk (if o.tag = [] then x.tag else o.tag) (o.tests ++ x.tests)) := by
  unfold flat1
  split
  · exact .inl rfl
  · rename_i x hx
    obtain ⟨lk, hl⟩ := single_some hx
    split
    · rename_i u hu
      obtain ⟨h1, rfl, h3⟩ := notNot_some hu
      exact .inr (.inl ⟨u, lk, h1, hl, h3, rfl⟩)
    · split
      · rename_i hc
        exact .inr (.inr ⟨x, lk, hl, hc.2.2, rfl⟩)
      · exact .inl rfl
theorem sh_flatT : ∀ (l : List Ts) (o : St), o.tests.length + l.length ≤ 6 → shTs o.tests = true → shTs l = true → (flatT o l).tests.length ≤ 6 ∧ shTs (flatT o l).tests = true
  | [], o, h, g, _ => ⟨by simpa [flatT] using h, g⟩
  | t :: r, o, h, g, g2 => by
    simp only [flatT]
    simp only [List.length_cons] at h
    simp only [shTs, Bool.and_eq_true] at g2
    have app : ∀ (a b : List Ts), shTs a = true → shTs b = true → shTs (a ++ b) = true := by
      intro a b ha hb
      rw [shTs_iff] at ha hb ⊢
      intro p hp
      rcases List.mem_append.1 hp with hp | hp
      · exact ha p hp
      · exact hb p hp
    have one : ∀ u, shT u = true → shTs [u] = true := by intro u hu; simp [shTs, hu]
    rcases flat1_cases o t r.length with e | ⟨u, lk, h1, h2, h3, e⟩ | ⟨x, lk, h1, h2, e⟩
    · rw [e]
      exact sh_flatT r _ (by simp only [St.tests_mk, List.length_append, List.length_singleton]; omega) (app _ _ g (one _ g2.1)) g2.2
    · rw [e]
      have hu : shT u = true := by
        have := g2.1
        rw [shT_eq, h2] at this
        simp only [shL, shPs, shP, shSs, shS, shTs, Bool.and_true, Bool.and_eq_true] at this
        exact this.2.2.2
      refine sh_flatT r _ (by simp only [St.tests_mk, List.length_append, List.length_singleton]; omega) (app _ _ g (one _ ?_)) g2.2
      rw [shT_eq] at hu ⊢
      exact hu
    · rw [e]
      have hx : shTs x.tests = true := by
        have := g2.1
        rw [shT_eq, h1] at this
        simp only [shL, shPs, shP, shSs, shS_eq, Bool.and_true, Bool.and_eq_true] at this
        exact this.2.2.2
      exact sh_flatT r _ (by simp only [St.tests_mk, List.length_append]; omega) (app _ _ g hx) g2.2
theorem sh_onceS (s : St) (h : shS s = true) : shS (onceS s) = true := by
  rw [shS_eq] at h ⊢
  simp only [Bool.and_eq_true, decide_eq_true_eq] at h
  have h1 := sh_flatT s.tests (.mk s.tag []) (by simpa [St.tests_mk] using h.1) rfl h.2
  simp only [onceS, St.tests_mk, Bool.and_eq_true]
  refine ⟨decide_eq_true (Nat.le_trans (firsts_len _ _) h1.1), ?_⟩
  rw [shTs_iff] at h1 ⊢
  exact fun p hp => h1.2 p (firsts_mem _ hp)
mutual
theorem sh_onPs : ∀ l, shPs l = true → shPs (onPs l) = true
  | [], _ => rfl
  | p :: r, h => by
    simp only [shPs, Bool.and_eq_true] at h
    simp only [onPs, shPs, sh_onP p h.1, sh_onPs r h.2, Bool.and_self]
theorem sh_onP : ∀ p, shP p = true → shP (onP p) = true
  | .mk s l, h => by
    simp only [shP, Bool.and_eq_true] at h
    simp only [onP, shP, sh_onSs s h.2, h.1.2, onSs_map, List.length_map, h.1.1, Bool.and_self]
    simpa [onSs_map] using sh_onSs s h.2
theorem sh_onSs : ∀ l, shSs l = true → shSs (onSs l) = true
  | [], _ => rfl
  | p :: r, h => by
    simp only [shSs, Bool.and_eq_true] at h
    simp only [onSs, shSs, sh_onS p h.1, sh_onSs r h.2, Bool.and_self]
theorem sh_onS : ∀ p, shS p = true → shS (onS p) = true
  | .mk t l, h => by
    simp only [onS]
    refine sh_onceS _ ?_
    simp only [shS, Bool.and_eq_true] at h ⊢
    exact ⟨by simpa [onTs_map] using h.1, sh_onTs l h.2⟩
theorem sh_onTs : ∀ l, shTs l = true → shTs (onTs l) = true
  | [], _ => rfl
  | p :: r, h => by
    simp only [shTs, Bool.and_eq_true] at h
    simp only [onTs, shTs, sh_onT p h.1, sh_onTs r h.2, Bool.and_self]
theorem sh_onT : ∀ p, shT p = true → shT (onT p) = true
  | .mk k n v a b l, h => by
    simp only [shT, Bool.and_eq_true, decide_eq_true_eq] at h
    simp only [onT, shT, Bool.and_eq_true, decide_eq_true_eq]
    refine ⟨Nat.le_trans (firsts_len _ _) (by simpa [onPs_map] using h.1), ?_⟩
    have h2 := sh_onPs l h.2
    rw [shPs_iff] at h2 ⊢
    exact fun p hp => h2 p (firsts_mem _ hp)
end
theorem sh_onL (l : List Pt) (h : shL l = true) : shL (onL l) = true := by
  simp only [shL, Bool.and_eq_true, decide_eq_true_eq] at h ⊢
  refine ⟨Nat.le_trans (firsts_len _ _) (by simpa [onPs_map] using h.1), ?_⟩
  have h2 := sh_onPs l h.2
  rw [shPs_iff] at h2 ⊢
  exact fun p hp => h2 p (firsts_mem _ hp)

/-! ### It becomes less, or it stays -/

mutual
def msPs : List Pt → Nat
  | [] => 0
  | p :: r => msP p + msPs r
def msP : Pt → Nat
  | .mk s _ => 1 + msSs s
def msSs : List St → Nat
  | [] => 0
  | s :: r => msS s + msSs r
def msS : St → Nat
  | .mk _ l => 1 + msTs l
def msTs : List Ts → Nat
  | [] => 0
  | t :: r => msT t + msTs r
def msT : Ts → Nat
  | .mk _ _ _ _ _ l => 1 + msPs l
end
theorem msPs_app : ∀ a b, msPs (a ++ b) = msPs a + msPs b
  | [], b => by simp [msPs]
  | p :: r, b => by simp only [List.cons_append, msPs, msPs_app r b, Nat.add_assoc]
theorem msTs_app : ∀ a b, msTs (a ++ b) = msTs a + msTs b
  | [], b => by simp [msTs]
  | p :: r, b => by simp only [List.cons_append, msTs, msTs_app r b, Nat.add_assoc]
theorem msP_pos (p : Pt) : 0 < msP p := by cases p; simp only [msP]; omega
theorem msT_pos (p : Ts) : 0 < msT p := by cases p; simp only [msT]; omega
theorem fP_ms : ∀ (l out : List Pt), msPs (l.foldl (addNew sameP) out) ≤ msPs (out ++ l) ∧ (msPs (l.foldl (addNew sameP) out) = msPs (out ++ l) → l.foldl (addNew sameP) out = out ++ l)
  | [], out => by simp
  | x :: r, out => by
    rw [List.foldl_cons]
    obtain ⟨h1, h2⟩ := fP_ms r (addNew sameP out x)
    unfold addNew at h1 h2 ⊢
    split
    · rename_i hb
      rw [if_pos hb] at h1 h2
      have := msP_pos x
      rw [msPs_app] at h1 ⊢
      simp only [msPs]
      constructor
      · omega
      · intro h; omega
    · rename_i hb
      rw [if_neg hb] at h1 h2
      rw [List.append_assoc] at h1 h2
      exact ⟨h1, h2⟩
theorem fT_ms : ∀ (l out : List Ts), msTs (l.foldl (addNew sameT) out) ≤ msTs (out ++ l) ∧ (msTs (l.foldl (addNew sameT) out) = msTs (out ++ l) → l.foldl (addNew sameT) out = out ++ l)
  | [], out => by simp
  | x :: r, out => by
    rw [List.foldl_cons]
    obtain ⟨h1, h2⟩ := fT_ms r (addNew sameT out x)
    unfold addNew at h1 h2 ⊢
    split
    · rename_i hb
      rw [if_pos hb] at h1 h2
      have := msT_pos x
      rw [msTs_app] at h1 ⊢
      simp only [msTs]
      constructor
      · omega
      · intro h; omega
    · rename_i hb
      rw [if_neg hb] at h1 h2
      rw [List.append_assoc] at h1 h2
      exact ⟨h1, h2⟩
theorem ms_flatT : ∀ (l : List Ts) (o : St), msTs (flatT o l).tests ≤ msTs o.tests + msTs l ∧ (msTs (flatT o l).tests = msTs o.tests + msTs l → flatT o l = .mk o.tag (o.tests ++ l))
  | [], o => by cases o; simp [flatT, msTs, St.tag, St.tests]
  | t :: r, o => by
    simp only [flatT]
    obtain ⟨h1, h2⟩ := ms_flatT r (flat1 o t r.length)
    rcases flat1_cases o t r.length with e | ⟨u, lk, h3, h4, h5, e⟩ | ⟨x, lk, h3, h4, e⟩
    · rw [e] at h1 h2 ⊢
      simp only [St.tests_mk, St.tag_mk, msTs_app, msTs, List.append_assoc, List.singleton_append, Nat.add_zero, Nat.add_assoc] at h1 h2 ⊢
      exact ⟨h1, h2⟩
    · rw [e] at h1 h2 ⊢
      have ht : msT t = 4 + msPs u.list + 0 := by
        cases t with
        | mk k n v a b l =>
          have : l = [.mk [.mk [] [u]] lk] := h4
          subst this
          cases u with
          | mk k' n' v' a' b' l' => simp only [msT, msPs, msP, msSs, msS, msTs, Ts.list]; omega
      simp only [St.tests_mk, St.tag_mk, msTs_app, msTs, msT] at h1 h2 ⊢
      constructor
      · omega
      · intro h; omega
    · rw [e] at h1 h2 ⊢
      have ht : msT t = 3 + msTs x.tests := by
        cases t with
        | mk k n v a b l =>
          have : l = [.mk [x] lk] := h3
          subst this
          cases x with
          | mk tg l' => simp only [msT, msPs, msP, msSs, msS, St.tests]; omega
      simp only [St.tests_mk, St.tag_mk, msTs_app, msTs] at h1 h2 ⊢
      constructor
      · omega
      · intro h; omega
theorem ms_onceS (s : St) : msS (onceS s) ≤ msS s ∧ (msS (onceS s) = msS s → onceS s = s) := by
  obtain ⟨h1, h2⟩ := ms_flatT s.tests (.mk s.tag [])
  obtain ⟨g1, g2⟩ := fT_ms (flatT (.mk s.tag []) s.tests).tests []
  simp only [List.nil_append, St.tests_mk, St.tag_mk, msTs, Nat.zero_add] at h1 h2 g1 g2
  cases s with
  | mk tg l =>
    simp only [onceS, firsts, msS, St.tests_mk, St.tag_mk] at h1 h2 g1 g2 ⊢
    refine ⟨by omega, fun h => ?_⟩
    rw [g2 (by omega), h2 (by omega)]
    rfl
mutual
theorem ms_onPs : ∀ l, msPs (onPs l) ≤ msPs l ∧ (msPs (onPs l) = msPs l → onPs l = l)
  | [] => by simp [onPs]
  | p :: r => by
    have h1 := ms_onP p
    have h2 := ms_onPs r
    simp only [onPs, msPs]
    refine ⟨by omega, fun h => ?_⟩
    rw [h1.2 (by omega), h2.2 (by omega)]
theorem ms_onP : ∀ p, msP (onP p) ≤ msP p ∧ (msP (onP p) = msP p → onP p = p)
  | .mk s l => by
    have h1 := ms_onSs s
    simp only [onP, msP]
    refine ⟨by omega, fun h => ?_⟩
    rw [h1.2 (by omega)]
theorem ms_onSs : ∀ l, msSs (onSs l) ≤ msSs l ∧ (msSs (onSs l) = msSs l → onSs l = l)
  | [] => by simp [onSs]
  | p :: r => by
    have h1 := ms_onS p
    have h2 := ms_onSs r
    simp only [onSs, msSs]
    refine ⟨by omega, fun h => ?_⟩
    rw [h1.2 (by omega), h2.2 (by omega)]
theorem ms_onS : ∀ p, msS (onS p) ≤ msS p ∧ (msS (onS p) = msS p → onS p = p)
  | .mk t l => by
    have h1 := ms_onTs l
    have h2 := ms_onceS (.mk t (onTs l))
    simp only [onS, msS] at h2 ⊢
    refine ⟨by omega, fun h => ?_⟩
    rw [h2.2 (by omega), h1.2 (by omega)]
theorem ms_onTs : ∀ l, msTs (onTs l) ≤ msTs l ∧ (msTs (onTs l) = msTs l → onTs l = l)
  | [] => by simp [onTs]
  | p :: r => by
    have h1 := ms_onT p
    have h2 := ms_onTs r
    simp only [onTs, msTs]
    refine ⟨by omega, fun h => ?_⟩
    rw [h1.2 (by omega), h2.2 (by omega)]
theorem ms_onT : ∀ p, msT (onT p) ≤ msT p ∧ (msT (onT p) = msT p → onT p = p)
  | .mk k n v a b l => by
    have h1 := ms_onPs l
    have h2 := fP_ms (onPs l) []
    simp only [onT, msT, firsts, List.nil_append] at h2 ⊢
    refine ⟨by omega, fun h => ?_⟩
    rw [h2.2 (by omega), h1.2 (by omega)]
end
theorem ms_onL (l : List Pt) : msPs (onL l) ≤ msPs l ∧ (msPs (onL l) = msPs l → onL l = l) := by
  have h1 := ms_onPs l
  have h2 := fP_ms (onPs l) []
  simp only [onL, firsts, List.nil_append] at h2 ⊢
  refine ⟨by omega, fun h => ?_⟩
  rw [h2.2 (by omega), h1.2 (by omega)]

/-- As plain as may be. -/
def plF : Nat → List Pt → List Pt
  | 0, l => onL l
  | n + 1, l => if samePs l (onL l) then onL l else plF n (onL l)
def plL (l : List Pt) : List Pt := plF (msPs l) l
theorem plF_mono : ∀ (n : Nat) (l : List Pt), msPs l ≤ n → plF n l = plL l
  | 0, l, h => by
    have : msPs l = 0 := by omega
    unfold plL; rw [this]
  | n + 1, l, h => by
    unfold plL
    obtain ⟨h1, h2⟩ := ms_onL l
    by_cases hs : samePs l (onL l) = true
    · have e : onL l = l := ((samePs_iff _ _).1 hs).symm
      cases hm : msPs l with
      | zero => simp only [plF, hs, if_true]
      | succ k => simp only [plF, hs, if_true]
    · have hne : msPs (onL l) ≠ msPs l := fun hc => hs ((samePs_iff _ _).2 (h2 hc).symm)
      cases hm : msPs l with
      | zero => omega
      | succ k =>
        simp only [plF, hs, Bool.false_eq_true, if_false]
        rw [plF_mono n (onL l) (by omega), plF_mono k (onL l) (by omega)]
theorem plL_end {l : List Pt} (h : samePs l (onL l) = true) : plL l = onL l := by
  unfold plL
  cases msPs l with
  | zero => rfl
  | succ k => simp only [plF, h, if_true]
theorem plL_go {l : List Pt} (h : samePs l (onL l) = false) : plL l = plL (onL l) ∧ msPs (onL l) < msPs l := by
  obtain ⟨h1, h2⟩ := ms_onL l
  have hne : msPs (onL l) ≠ msPs l := fun hc => by rw [(samePs_iff _ _).2 (h2 hc).symm] at h; cases h
  refine ⟨?_, by omega⟩
  unfold plL
  cases hm : msPs l with
  | zero => omega
  | succ k =>
    simp only [plF, h, Bool.false_eq_true, if_false]
    exact plF_mono k _ (by omega)
end Go.Hx
end

section
/-
  Lists of which the first ones are done and the others are not; small laws on owned trees. No condition.
-/
namespace Go.Hx
open Go.RowKit

section
variable {α β : Type}
/-- The first ones done, the others not. -/
def mix (f g : α → β) (l : List α) (k : Nat) : List β := (l.take k).map f ++ (l.drop k).map g
variable {f g : α → β} {l : List α} {k : Nat}
theorem mix_len : (mix f g l k).length = l.length := by simp [mix]; omega
theorem mix_0 : mix f g l 0 = l.map g := by simp [mix]
theorem mix_all : mix f g l l.length = l.map f := by simp [mix]
theorem mix_get [Inhabited α] {d : β} (h : k < l.length) : (mix f g l k).getD k d = g (l.getD k default) := by
  unfold mix
  rw [List.getD_eq_getElem?_getD, List.getElem?_append_right (by simp; omega)]
  simp [Nat.min_eq_left (Nat.le_of_lt h), h]
theorem mix_set [Inhabited α] (h : k < l.length) : (mix f g l k).set k (f (l.getD k default)) = mix f g l (k + 1) := by
  have e1 : l.drop k = l.getD k default :: l.drop (k + 1) := by simp [h]
  have e2 : l.take (k + 1) = l.take k ++ [l.getD k default] := by rw [List.take_succ_eq_append_getElem h]; simp [h]
  unfold mix
  rw [e1, e2, List.map_append, List.map_cons, List.set_append_right _ _ (by simp; omega)]
  simp [Nat.min_eq_left (Nat.le_of_lt h)]
end
section
variable [Glob]
theorem pv_cons {F : List Ct} {x : Opd} {c : Nat} {r : List (Opd × Nat)} : pathV F ((x, c) :: r) = (match (getO F x).pv? with
    | some (.one (.v (.int _ n))) => ((getO F x).need ∧ 0 ≤ n ∧ (pathV F r).1, (n.toNat, c) :: (pathV F r).2)
    | _ => (False, [])) := rfl
theorem og_cons {b : Option Nat} {e k i c : Nat} {rows : List (List OV)} {pt : List (Nat × Nat)} : (OV.os b e k rows).get ((i, c) :: pt) = (match (rows.getD i [])[c]? with
    | some y => y.get pt
    | none => none) := rfl
theorem ou_cons {b : Option Nat} {e k i c : Nat} {rows : List (List OV)} {pt : List (Nat × Nat)} {y : OV} : (OV.os b e k rows).upd ((i, c) :: pt) y = .os b e k (rows.set i ((rows.getD i []).set c (((rows.getD i []).getD c .hole).upd pt y))) := rfl
theorem set_gets {l : List (List OV)} {m : Nat} (h : m < l.length) (r : List OV) : (l.set m r).getD m [] = r := by simp [h]
theorem set_self {l : List (List OV)} {m : Nat} {r : List OV} (h : m < l.length) (e : l.getD m [] = r) : l = l.set m r := by
  subst e
  refine List.ext_getElem (by simp) fun i h1 h2 => ?_
  rw [List.getElem_set]
  split
  · rename_i h3; subst h3; simp [h]
  · rfl
variable {P : Program} {F : List Ct} {K : List Ct → Prop} {X : Value → List Ct → Prop}
theorem call_o {d f x : Nat} {v v' : OVal} (e : F.getD x .un = .ov v) (h : OContract P f v v') (hk : K ((F.set x .un).set d (.ov v'))) : hoW P ⟨none, .callo d f x⟩ F K X := by
  rw [o_callo, e]
  exact ⟨v', h, hk⟩
theorem call_p {d f x : Nat} {v : OVal} {cs : List OV} {xs : List PV} (e : F.getD x .un = .ov v) (h : OContract P f v (.agg cs)) (hf : frzL cs = some xs) (hk : K ((F.set x .un).set d (.pv (.agg xs)))) : hoW P ⟨none, .callp d f x⟩ F K X := by
  rw [o_callp, e]
  exact ⟨cs, xs, h, hf, hk⟩
/-- A guarded call that is not made. -/
theorem call_dead {g : Nat × Bool} {f : FuncId} {args : List (Opd × AM)} {d : Nat} (hg : guardB F g = some false) (hk : K (F.set d (.gd false (bv false)))) : hoW P ⟨some g, .call (some d) f args⟩ F K X :=
  call_guard hg (fun h => nomatch h) (fun h => nomatch h) hk
end
end Go.Hx
end
