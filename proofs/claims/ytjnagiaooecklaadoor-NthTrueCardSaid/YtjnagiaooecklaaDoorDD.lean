/-
  Documents as plain Lean data, and what the walks say of them. No condition.
-/
import Derived.Test.YtjnagiaooecklaaDoorHxM
set_option linter.all false
namespace Go.Hx
variable [Glob]

theorem Contract.av {P : Go.Program} {f : Nat} {av av' : List AV} {r : RV} (h : Contract P f av r) (e : av' = av) : Contract P f av' r := e ▸ h

abbrev Bys := List UInt8
structure Nd where
  up : Int
  tag : Bys
  id : Bys
  cls : List Bys
  att : List (Bys × Bys)
  deriving DecidableEq, Inhabited

abbrev bI (n : Int) : PV := .v (.int .i64 n)
abbrev bS (l : Bys) : PV := .v (mkS l)
abbrev bB (b : Bool) : PV := .v (.bool b)
def clsV (l : List Bys) : List (List PV) := l.map fun c => [bS c]
def attV (l : List (Bys × Bys)) : List (List PV) := l.map fun a => [bS a.1, bS a.2]
def ndV (x : Nd) : List PV := [bI x.up, bS x.tag, bS x.id, .sl 1 (clsV x.cls), .sl 2 (attV x.att)]
def ndsV (d : List Nd) : List (List PV) := d.map ndV
def docV (d : List Nd) : PVal := .agg [.sl 5 (ndsV d)]
def intsR (l : List Int) : List (List PV) := l.map fun n => [bI n]

theorem clsV_len (d : List Bys) : (clsV d).length = d.length := by simp [clsV]
theorem attV_len (d : List (Bys × Bys)) : (attV d).length = d.length := by simp [attV]
theorem ndsV_len (d : List Nd) : (ndsV d).length = d.length := by simp [ndsV]
theorem intsR_len (d : List Int) : (intsR d).length = d.length := by simp [intsR]
theorem clsV_get (d : List Bys) (i : Nat) (h : i < d.length) : (clsV d).getD i [] = [bS (d.getD i [])] := by simp [clsV, h]
theorem attV_get (d : List (Bys × Bys)) (i : Nat) (h : i < d.length) : (attV d).getD i [] = [bS (d.getD i default).1, bS (d.getD i default).2] := by simp [attV, h]
theorem ndsV_get (d : List Nd) (i : Nat) (h : i < d.length) : (ndsV d).getD i [] = ndV (d.getD i default) := by simp [ndsV, h]
theorem intsR_get (d : List Int) (i : Nat) (h : i < d.length) : (intsR d).getD i [] = [bI (d.getD i 0)] := by simp [intsR, h]

theorem inR_small {n : Int} (h1 : -9223372036854775808 ≤ n) (h2 : n ≤ 9223372036854775807) : inR .i64 n := ⟨h1, h2⟩
theorem all_take_succ {α : Type} {p : α → Bool} {l : List α} {i : Nat} {d : α} (h : i < l.length) : (l.take (i + 1)).all p = ((l.take i).all p && p (l.getD i d)) := by
  rw [List.take_add_one, List.all_append]
  simp [h]
theorem le_bool {n m : Bool} (h : n = m) : leC (.pv (bv n)) (.pv (bv m)) := le_eq (by rw [h])
theorem le_str {n m : Bys} (h : n = m) : leC (.pv (sv n)) (.pv (sv m)) := le_eq (by rw [h])

theorem take_eq_succ {α : Type} {a b : List α} {i : Nat} (d : α) (h : a.take i = b.take i) (ha : i < a.length) (hb : i < b.length) (e : a.getD i d = b.getD i d) : a.take (i + 1) = b.take (i + 1) := by
  rw [List.take_succ_eq_append_getElem ha, List.take_succ_eq_append_getElem hb, h]
  simp [ha, hb] at e
  rw [e]
theorem ne_of_getD {α : Type} {a b : List α} {i : Nat} (d : α) (e : a.getD i d ≠ b.getD i d) : a ≠ b := fun h => e (by rw [h])
theorem eq_of_take {α : Type} {a b : List α} (hl : a.length = b.length) (h : a.take a.length = b.take a.length) : a = b := by
  rw [List.take_length, hl, List.take_length] at h; exact h
theorem fits_sl {k : Nat} {rows : List (List PV)} (h : PV.fits (.sl k rows)) : rows.length ≤ 9223372036854775807 := by
  simp only [PV.fits, maxLen] at h; omega

/-! ### Names, values -/

def nameCh (c : UInt8) : Bool := decide (97 ≤ c.toNat ∧ c.toNat ≤ 122) || decide (48 ≤ c.toNat ∧ c.toNat ≤ 57) || decide (c.toNat = 45)
def valCh (c : UInt8) : Bool := decide (32 ≤ c.toNat ∧ c.toNat ≤ 126) && !decide (c.toNat = 34)
def isName (s : Bys) : Bool := decide (1 ≤ s.length ∧ s.length ≤ 12) && decide (97 ≤ (s.getD 0 0).toNat ∧ (s.getD 0 0).toNat ≤ 122) && s.all nameCh
def isValue (s : Bys) : Bool := decide (s.length ≤ 16) && s.all valCh

/-! ### Elements, documents that are right -/

def cOk (l : List Bys) (k : Nat) : Bool := isName (l.getD k []) && (decide (k = 0) || Op.bytesLess (l.getD (k - 1) []) (l.getD k []))
def okC (l : List Bys) (i : Nat) : Bool := (List.range i).all (cOk l)
def aOk (l : List (Bys × Bys)) (k : Nat) : Bool := isName (l.getD k default).1 && isValue (l.getD k default).2 && (decide (k = 0) || Op.bytesLess (l.getD (k - 1) default).1 (l.getD k default).1)
def okA (l : List (Bys × Bys)) (i : Nat) : Bool := (List.range i).all (aOk l)
def nodeFine (x : Nd) : Bool := isName x.tag && (x.id == [] || isName x.id) && decide (x.cls.length ≤ 6) && decide (x.att.length ≤ 4) && okC x.cls x.cls.length && okA x.att x.att.length

theorem range_all_succ {p : Nat → Bool} {i : Nat} : (List.range (i + 1)).all p = ((List.range i).all p && p i) := by
  rw [List.range_succ, List.all_append]; simp
theorem range_all_get {p : Nat → Bool} {n i : Nat} (h : (List.range n).all p = true) (hi : i < n) : p i = true := by
  rw [List.all_eq_true] at h
  exact h i (List.mem_range.2 hi)
theorem range_all_le {p : Nat → Bool} {n i : Nat} (h : (List.range n).all p = true) (hi : i ≤ n) : (List.range i).all p = true := by
  rw [List.all_eq_true] at *
  exact fun x hx => h x (List.mem_range.2 (Nat.lt_of_lt_of_le (List.mem_range.1 hx) hi))

def upOf (d : List Nd) (i : Nat) : Int := (d.getD i default).up
/-- k, and what is above it. -/
def chain (d : List Nd) : Nat → Int → List Int
  | 0, _ => []
  | f + 1, k => if k < 0 then [] else k :: chain d f (upOf d k.toNat)
def okUp (d : List Nd) (i : Nat) : Bool := if i = 0 then decide (upOf d 0 = -1) else (chain d i ((i : Int) - 1)).contains (upOf d i)
def okAt (d : List Nd) (i : Nat) : Bool := nodeFine (d.getD i default) && okUp d i
def docOk (d : List Nd) (n : Nat) : Bool := (List.range n).all (okAt d)
def checkDoc (d : List Nd) : Int := if 1 ≤ d.length ∧ d.length ≤ 64 then (if docOk d d.length then 0 else 1) else 2
def Right (d : List Nd) : Prop := 1 ≤ d.length ∧ d.length ≤ 64 ∧ docOk d d.length = true

theorem chain_bound {d : List Nd} : ∀ (f : Nat) (k : Int), (∀ j : Nat, (j : Int) ≤ k → upOf d j < j) → ∀ x ∈ chain d f k, 0 ≤ x ∧ x ≤ k
  | 0, k, _, x, hx => by simp [chain] at hx
  | f + 1, k, h, x, hx => by
    simp only [chain] at hx
    split at hx
    · cases hx
    · rename_i hk
      rcases List.mem_cons.1 hx with rfl | hx
      · omega
      · have h1 := h k.toNat (by omega)
        have := chain_bound f (upOf d k.toNat) (fun j hj => h j (by omega)) x hx
        omega

theorem docOk_up {d : List Nd} : ∀ {n : Nat}, docOk d n = true → ∀ j, j < n → -1 ≤ upOf d j ∧ upOf d j < j
  | 0, _, j, hj => by omega
  | n + 1, h, j, hj => by
    have h0 : docOk d n = true := range_all_le h (Nat.le_succ n)
    by_cases hjn : j < n
    · exact docOk_up h0 j hjn
    · have e : j = n := by omega
      subst e
      have h1 := range_all_get h (Nat.lt_succ_self j)
      simp only [okAt, okUp, Bool.and_eq_true] at h1
      split at h1
      · rename_i e; subst e; simp at h1; omega
      · have h2 : upOf d j ∈ chain d j ((j : Int) - 1) := by simpa using h1.2
        have := chain_bound j ((j : Int) - 1) (fun k hk => (docOk_up h0 k (by omega)).2) _ h2
        omega

/-- More fuel changes nothing, where there is enough. -/
theorem chain_fuel {d : List Nd} : ∀ (f g : Nat) (k : Int), (∀ j : Nat, (j : Int) ≤ k → upOf d j < j) → k < f → k < g → chain d f k = chain d g k
  | 0, g, k, _, h1, _ => by
    have : k < 0 := by omega
    cases g <;> simp [chain, this]
  | f + 1, 0, k, _, _, h2 => by
    have : k < 0 := by omega
    simp [chain, this]
  | f + 1, g + 1, k, h, h1, h2 => by
    simp only [chain]
    split
    · rfl
    · rename_i hk
      have h3 := h k.toNat (by omega)
      rw [chain_fuel f g (upOf d k.toNat) (fun j hj => h j (by omega)) (by omega) (by omega)]

end Go.Hx
