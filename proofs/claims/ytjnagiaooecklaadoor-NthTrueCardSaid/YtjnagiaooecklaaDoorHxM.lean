/-
  THE ABSTRACT LAYER, THIRTEENTH TEXT: the rules by which simp walks the abstract code. Generic over the program. No condition.
-/
import Derived.Test.YtjnagiaooecklaaDoorHxL
set_option linter.all false
namespace Go.Hx
open Go.RowKit
variable [Glob]

section
variable {P : Program} {h h1 h2 : HCode} {Q : Exit → List Ct → Prop} {K : List Ct → Prop} {X : Value → List Ct → Prop} {F F' : List Ct}

/-! The continuations, as constants: simp does not look into them. -/
def opsK (P : Program) (os : List HO) (K : List Ct → Prop) (X : Value → List Ct → Prop) : List Ct → Prop := fun F => opsW P os F K X
def dK (P : Program) (ds : List DO) (N : List Ct → Prop) (X : Value → Prop) : List Ct → Prop := fun F => dW P ds F N X
def dX (l : Bool) (X : Value → Prop) : Value → List Ct → Prop := fun v _ => l = true ∧ X v
def ghK (post : List Gh) (K : List Ct → Prop) : List Ct → Prop := fun F => ghW F K post
def nrm (Q : Exit → List Ct → Prop) : List Ct → Prop := fun F => Q .normal F
def panX (Q : Exit → List Ct → Prop) : Value → List Ct → Prop := fun v F => Q (.panic [{ v, recovered := false }]) F
def panA (Q : Exit → List Ct → Prop) : Value → Prop := fun v => ∀ F, Q (.panic [{ v, recovered := false }]) F
def drwK (P : Program) (os : List HO) (K : List Ct → Prop) : List Ct → Prop := fun F => drwW P os F K
def bkK (F : List Ct) (ds : List Nat) (post : List Gh) (Q : Exit → List Ct → Prop) : List Ct → Prop := fun F1 => ghW (back F F1 ds) (nrm Q) post

theorem w_skip : hwp P .skip Q F = Q .normal F := rfl
theorem w_reg {ops : List HO} {post : List Gh} : hwp P (.reg ops false post) Q F = opsK P ops (ghK post (nrm Q)) (panX Q) F := rfl
theorem w_drg {ds : List DO} {post : List Gh} : hwp P (.drg ds post) Q F = dK P ds (ghK post (nrm Q)) (panA Q) F := rfl
theorem w_rdr {i : Nat} {ops : List HO} {draw : Bool} {post : List Gh} : hwp P (.rdr i ops draw post) Q F = (match F.getD i .un with
    | .stk e k rows => drwK P ops (bkK F (dsts ops) post Q) (F.set i (.own e k rows))
    | _ => False) := rfl
theorem k_nil : opsK P [] K X F = K F := rfl
theorem k_cons {o : HO} {os : List HO} : opsK P (o :: os) K X F = hoW P o F (opsK P os K X) X := rfl
theorem dk_nil {N : List Ct → Prop} {X0 : Value → Prop} : dK P [] N X0 F = N F := rfl
theorem dk_cons {i : Nat} {l : Bool} {h : HO} {ds : List DO} {N : List Ct → Prop} {X0 : Value → Prop} : dK P (⟨i, l, h⟩ :: ds) N X0 F = hoW P h F (dK P ds N X0) (dX l X0) := rfl
theorem k_gh {post : List Gh} : ghK post K F = ghW F K post := rfl
theorem k_nrm : nrm Q F = Q .normal F := rfl
theorem k_panX {v : Value} : panX Q v F = Q (.panic [{ v, recovered := false }]) F := rfl
theorem k_panA {v : Value} : panA Q v = ∀ F, Q (.panic [{ v, recovered := false }]) F := rfl
theorem k_dX {l : Bool} {X0 : Value → Prop} {v : Value} : dX l X0 v F = (l = true ∧ X0 v) := rfl
theorem k_bk {F0 : List Ct} {ds : List Nat} {post : List Gh} : bkK F0 ds post Q F = ghW (back F0 F ds) (nrm Q) post := rfl
theorem o_nlk {d e k : Nat} : hoW P ⟨none, .nlk d e k⟩ F K X = K (F.set d (.stk e k [])) := rfl
theorem o_mvk {d x : Nat} : hoW P ⟨none, .mvk d x⟩ F K X = (match F.getD x .un with
    | .stk e k rows => d ≠ x ∧ K ((F.set x (.hdr rows.length)).set d (.stk e k rows))
    | _ => False) := rfl
theorem o_trk {d x : Nat} {hi : Opd} : hoW P ⟨none, .trk d x hi⟩ F K X = (match F.getD x .un, (getO F hi).pv? with
    | .stk e k rows, some (.one (.v (.int _ n))) => d ≠ x ∧ (getO F hi).need ∧ 0 ≤ n ∧ n ≤ rows.length ∧ K ((F.set x (.hdr rows.length)).set d (.stk e k (rows.take n.toNat)))
    | _, _ => False) := rfl
theorem o_apk {d e k x : Nat} {y : Opd} : hoW P ⟨none, .apk d e k x y⟩ F K X = (match F.getD x .un, (getO F y).pv? with
    | .stk e' k' rows, some (.one (.sl k'' rs)) => x ≠ d ∧ e' = e ∧ k' = k ∧ k'' = k ∧ (getO F y).need ∧ (rows.length + rs.length) * 4096 ≤ 140737488355328 ∧ K ((F.set x (.hdr rows.length)).set d (.stk e k (rows ++ rs)))
    | _, _ => False) := rfl
theorem o_isn {d : Nat} {ng : Bool} {x : Opd} : hoW P ⟨none, .isn d ng x⟩ F K X = (match (getO F x).pv? with
    | some (.one (.sl _ rows)) => (getO F x).need ∧ ∀ b : Bool, (rows ≠ [] → b = false) → K (F.set d (.pv (bv (if ng then !b else b))))
    | some (.one (.nl _)) => (getO F x).need ∧ K (F.set d (.pv (bv (!ng))))
    | _ => False) := rfl
theorem b_nil {F1 : List Ct} : back F F1 [] = F := rfl
theorem b_cons {F1 : List Ct} {d : Nat} {ds : List Nat} : back F F1 (d :: ds) = back (F.set d (atomC (F1.getD d .un))) F1 ds := rfl
theorem w_seq {a b : HCode} : hwp P (.seq a b) Q F = hwp P a (thenQ (hwp P b Q) Q) F := rfl
theorem cond_of {x : Opd} {a b : HCode} {t : Bool} (e : (getO F x).pv? = some (.one (.v (.bool t)))) (n : (getO F x).need) (ht : t = true → hwp P a Q F) (hf : t = false → hwp P b Q F) : hwp P (.cond x a b) Q F := by
  simp only [hwp, e]
  exact ⟨n, ht, hf⟩
theorem cond_t {x : Opd} {a b : HCode} (e : (getO F x).pv? = some (.one (.v (.bool true)))) (n : (getO F x).need) (ht : hwp P a Q F) : hwp P (.cond x a b) Q F :=
  cond_of e n (fun _ => ht) (fun h => by cases h)
theorem cond_f {x : Opd} {a b : HCode} (e : (getO F x).pv? = some (.one (.v (.bool false)))) (n : (getO F x).need) (hf : hwp P b Q F) : hwp P (.cond x a b) Q F :=
  cond_of e n (fun h => by cases h) (fun _ => hf)
theorem w_block {id : Nat} {a : HCode} : hwp P (.block id a) Q F = hwp P a (inBlockQ id Q) F := rfl
theorem w_exit {id : Nat} : hwp P (.exit id) Q F = Q (.exit id) F := rfl
theorem w_ret : hwp P .ret Q F = Q .ret F := rfl

theorem q_then1 : thenQ K Q .normal F = K F := rfl
theorem q_then2 {id : Nat} : thenQ K Q (.exit id) F = Q (.exit id) F := rfl
theorem q_then3 : thenQ K Q .ret F = Q .ret F := rfl
theorem q_then4 {ch : List PanicEntry} : thenQ K Q (.panic ch) F = Q (.panic ch) F := rfl
theorem q_blk1 {id : Nat} : inBlockQ id Q .normal F = Q .normal F := rfl
theorem q_blk2 {id id' : Nat} : inBlockQ id Q (.exit id') F = if id' = id then Q .normal F else Q (.exit id') F := rfl
theorem q_blk3 {id : Nat} : inBlockQ id Q .ret F = Q .ret F := rfl
theorem q_blk4 {id : Nat} {ch : List PanicEntry} : inBlockQ id Q (.panic ch) F = Q (.panic ch) F := rfl

theorem o_val {d : Nat} {v : VOp} : hoW P ⟨none, .val d v⟩ F K X = ((ev F v).1 ∧ K (F.set d (ev F v).2)) := rfl
/-- A choice; it is entered once its Bool is known. -/
def gsel (T : Bool) (A B : Prop) : Prop := match T with
  | true => A
  | false => B
theorem gsel_t {A B : Prop} : gsel true A B = A := rfl
theorem gsel_f {A B : Prop} : gsel false A B = B := rfl
theorem gsel_congr {T T' : Bool} {A B : Prop} (h : T = T') : gsel T A B = gsel T' A B := by rw [h]
attribute [congr] gsel_congr
theorem o_guard {g : Nat × Bool} {d : Nat} {v : VOp} : hoW P ⟨some g, .val d v⟩ F K X = (match guardB F g with
    | none => False
    | some T => match (ev F v).2 with
      | .pv x => (T = true → (ev F v).1) ∧ K (F.set d (.gd T x))
      | _ => gsel T ((ev F v).1 ∧ K (F.set d (ev F v).2)) (K (F.set d (.gd false (bv false))))) := rfl

theorem d_nil : drwK P [] K F = K F := rfl
theorem d_val {os : List HO} {d : Nat} {v : VOp} : drwK P (⟨none, .val d v⟩ :: os) K F = ((ev F v).1 ∧ drwK P os K (F.set d (ev F v).2)) := rfl
theorem d_guard {os : List HO} {g : Nat × Bool} {d : Nat} {v : VOp} : drwK P (⟨some g, .val d v⟩ :: os) K F = (match guardB F g with
    | none => False
    | some T => match (ev F v).2 with
      | .pv x => (T = true → (ev F v).1) ∧ drwK P os K (F.set d (.gd T x))
      | _ => T = false ∧ drwK P os K (F.set d (.gd T (bv false)))) := rfl

/-- A call in a region that reads alone. -/
theorem dcall_val {os : List HO} {f : FuncId} {args : List (Opd × AM)} {d : Nat} {x : Value} (h1 : (avsV F args).1) (h2 : Contract P f (avsV F args).2 { res := .val (.one (.v x)) }) (h3 : drwK P os K (F.set d (.pv (.one (.v x))))) : drwK P (⟨none, .call (some d) f args⟩ :: os) K F :=
  ⟨h1, x, h2, h3⟩
theorem dcall_guard {os : List HO} {g : Nat × Bool} {f : FuncId} {args : List (Opd × AM)} {d : Nat} {T : Bool} {x : Value} (hg : guardB F g = some T) (h1 : T = true → (avsV F args).1) (h2 : T = true → Contract P f (avsV F args).2 { res := .val (.one (.v x)) }) (h3 : drwK P os K (F.set d (.gd T (.one (.v x))))) : drwK P (⟨some g, .call (some d) f args⟩ :: os) K F := by
  unfold drwK
  simp only [drwW, quW, hg]
  exact ⟨h1, x, h2, h3⟩
/-- A call whose function has a contract. -/
theorem call_val {f : FuncId} {args : List (Opd × AM)} {d : Option Nat} {x : PVal} {io : List PV} (h1 : (avsV F args).1) (h2 : Contract P f (avsV F args).2 { res := .val x, io := io }) (h3 : K (setD (dropArgs F (some io) args) d (.pv x))) : hoW P ⟨none, .call d f args⟩ F K X :=
  ⟨h1, _, h2, h3⟩
theorem call_own {f : FuncId} {args : List (Opd × AM)} {d : Option Nat} {e k : Nat} {rows : List (List PV)} {io : List PV} (h1 : (avsV F args).1) (h2 : Contract P f (avsV F args).2 { res := .own e k rows, io := io }) (h3 : K (setD (dropArgs F (some io) args) d (.own e k rows))) : hoW P ⟨none, .call d f args⟩ F K X :=
  ⟨h1, _, h2, h3⟩
theorem call_tup {f : FuncId} {args : List (Opd × AM)} {d : Option Nat} {x : PVal} {xs : List PVal} {io : List PV} (h1 : (avsV F args).1) (h2 : Contract P f (avsV F args).2 { res := .tup (x :: xs), io := io }) (h3 : K (setD (dropArgs F (some io) args) d (.tup (x :: xs)))) : hoW P ⟨none, .call d f args⟩ F K X :=
  ⟨h1, _, h2, h3⟩
theorem call_un {f : FuncId} {args : List (Opd × AM)} {d : Option Nat} {io : List PV} (h1 : (avsV F args).1) (h2 : Contract P f (avsV F args).2 { res := .tup [], io := io }) (h3 : K (setD (dropArgs F (some io) args) d .un)) : hoW P ⟨none, .call d f args⟩ F K X :=
  ⟨h1, _, h2, h3⟩
theorem call_pan {f : FuncId} {args : List (Opd × AM)} {d : Option Nat} {v : Value} (h1 : (avsV F args).1) (h2 : Contract P f (avsV F args).2 { res := .pan v }) (h3 : X v (dropArgs F none args)) : hoW P ⟨none, .call d f args⟩ F K X :=
  ⟨h1, _, h2, h3⟩
/-- A guarded call of a function with a contract. -/
theorem call_guard {g : Nat × Bool} {f : FuncId} {args : List (Opd × AM)} {d : Nat} {T : Bool} {x : PVal} (hg : guardB F g = some T) (h1 : T = true → (avsV F args).1) (h2 : T = true → Contract P f (avsV F args).2 { res := .val x }) (h3 : K (F.set d (.gd T x))) : hoW P ⟨some g, .call (some d) f args⟩ F K X := by
  show hoW P ⟨some g, .call (some d) f args⟩ F _ X
  unfold hoW
  simp only [hg]
  exact ⟨h1, x, h2, h3⟩
/-- A guarded call of a function value. -/
theorem callv_guard {g : Nat × Bool} {f : FuncId} {x0 : Opd} {caps : List PV} {args : List (Opd × AM)} {d : Nat} {T : Bool} {x : PVal} (hg : guardB F g = some T) (e : (getO F x0).pv? = some (.one (.clo f caps))) (n : T = true → (getO F x0).need) (h1 : T = true → (avsV F args).1)
    (h2 : T = true → Contract P f ((avsV F args).2 ++ caps.map fun c => .val (.one c)) { res := .val x }) (h3 : K (F.set d (.gd T x))) : hoW P ⟨some g, .callv (some d) x0 args⟩ F K X := by
  unfold hoW
  simp only [hg, e]
  exact ⟨fun h => ⟨n h, h1 h⟩, x, h2, h3⟩
/-- A call of a function value. -/
theorem callv_val {f : FuncId} {x0 : Opd} {caps : List PV} {args : List (Opd × AM)} {d : Option Nat} {x : PVal} {io : List PV} (e : (getO F x0).pv? = some (.one (.clo f caps))) (n : (getO F x0).need) (h1 : (avsV F args).1)
    (h2 : Contract P f ((avsV F args).2 ++ caps.map fun c => .val (.one c)) { res := .val x, io := io }) (h3 : K (setD (dropArgs F (some io) args) d (.pv x))) : hoW P ⟨none, .callv d x0 args⟩ F K X := by
  show opW P (.callv d x0 args) F _ X
  simp only [opW, e]
  exact ⟨n, h1, _, h2, h3⟩

theorem imp_and_l {p q : Prop} : (p → p ∧ q) = (p → q) := propext ⟨fun h a => (h a).2, fun h a => ⟨a, h a⟩⟩
theorem loop_of {a : HCode} (I : Nat → List Ct → Prop) (n : Nat) (F' : List Ct) (h0 : Le F F') (h1 : I n F') (hr : ∀ n F1, I n F1 → hwp P a (thenQ (fun F2 => ∃ n' F', n' < n ∧ Le F2 F' ∧ I n' F') Q) F1) : hwp P (.loop a) Q F :=
  ⟨I, ⟨n, F', h0, h1⟩, hr⟩

theorem get_here (c : Ct) (F : List Ct) : (c :: F).getD 0 .un = c := rfl
theorem get_next (c : Ct) (F : List Ct) (n : Nat) : (c :: F).getD (n + 1) .un = F.getD n .un := by simp
theorem set_here (c d : Ct) (F : List Ct) : (c :: F).set 0 d = d :: F := rfl
theorem set_next (c d : Ct) (F : List Ct) (n : Nat) : (c :: F).set (n + 1) d = c :: F.set n d := rfl

theorem sets_nil : sets F [] = F := rfl
theorem sets_cons {i : Nat} {c : Ct} {l : List (Nat × Ct)} : sets F ((i, c) :: l) = sets (F.set i c) l := rfl

/-- A loop: its rounds differ in some slots alone. -/
theorem loop_sets {a : HCode} {α : Type} (us : α → List (Nat × Ct)) (μ : α → Nat) (inv : α → Prop) (s0 : α) (h0 : Le F (sets F (us s0))) (h1 : inv s0)
    (hr : ∀ s, inv s → hwp P a (thenQ (fun F2 => ∃ s', μ s' < μ s ∧ inv s' ∧ Le F2 (sets F (us s'))) Q) (sets F (us s))) : hwp P (.loop a) Q F :=
  ⟨fun n F' => ∃ s, μ s = n ∧ inv s ∧ F' = sets F (us s), ⟨μ s0, _, h0, s0, rfl, h1, rfl⟩, by
    rintro n F1 ⟨s, rfl, hs, rfl⟩
    have e : (fun F2 => ∃ n' F', n' < μ s ∧ Le F2 F' ∧ (fun n F' => ∃ s, μ s = n ∧ inv s ∧ F' = sets F (us s)) n' F') = (fun F2 => ∃ s', μ s' < μ s ∧ inv s' ∧ Le F2 (sets F (us s'))) := by
      funext F2
      apply propext
      constructor
      · rintro ⟨n', F', h2, h3, s', rfl, h4, rfl⟩
        exact ⟨s', h2, h4, h3⟩
      · rintro ⟨s', h2, h3, h4⟩
        exact ⟨_, _, h2, h4, s', rfl, h3, rfl⟩
    rw [e]
    exact hr s hs⟩

theorem le_nil : Le [] [] = True := by simp [Le]
theorem le_cons {c d : Ct} {F G : List Ct} : Le (c :: F) (d :: G) = (leC c d ∧ Le F G) := by
  simp only [Le, List.cons.injEq, eq_iff_iff]
  constructor
  · rintro ⟨c', cs', ⟨rfl, rfl⟩, h⟩; exact h
  · exact fun h => ⟨_, _, ⟨rfl, rfl⟩, h⟩
theorem le_un {c : Ct} : leC c .un = True := by simp [leC]
theorem le_same {c : Ct} : leC c c = True := by simp [leC]
theorem le_eq {c d : Ct} (h : c = d) : leC c d := .inr (.inl h.symm)
theorem le_nat0 : leC (.pv (iv 0)) (.pv (iv ((0 : Nat) : Int))) = True := by simp [leC]
theorem le_int {n m : Int} (h : n = m) : leC (.pv (iv n)) (.pv (iv m)) := le_eq (by rw [h])
theorem le_own {e k : Nat} {r r' : List (List PV)} (h : r = r') : leC (.own e k r) (.own e k r') := le_eq (by rw [h])
theorem le_nlo {e k k' : Nat} : leC (.pv (.one (.nl k))) (.own e k' []) := .inr (.inr rfl)

theorem g_nil : ghW F K [] = K F := rfl
theorem g_frz {j base n : Nat} {r : List Gh} : ghW F K (.frz j base n :: r) = (match cellsPV F base n with
    | some cs => ghW (setCells (F.map (frzC j cs)) base (List.replicate n .un)) K r
    | none => False) := rfl
theorem g_forget {l : List Nat} {r : List Gh} : ghW F K (.forget l :: r) = ghW (forgetAll F l) K r := rfl
theorem f_nil : forgetAll F [] = F := rfl
theorem f_cons {i : Nat} {r : List Nat} : forgetAll F (i :: r) = forgetAll (F.set i .un) r := rfl
theorem c_nil {i : Nat} : setCells F i [] = F := rfl
theorem c_cons {i : Nat} {c : Ct} {cs : List Ct} : setCells F i (c :: cs) = setCells (F.set i c) (i + 1) cs := rfl

theorem o_mvo {d x : Nat} : hoW P ⟨none, .mvo d x⟩ F K X = (match F.getD x .un with
    | .own e k rows => d ≠ x ∧ K ((F.set x (.pv (.one (.sl k rows)))).set d (.own e k rows))
    | _ => False) := rfl
theorem o_nlo {d e k : Nat} : hoW P ⟨none, .nlo d e k⟩ F K X = K (F.set d (.own e k [])) := rfl
theorem o_ldo {d j base off e k : Nat} {x : Opd} : hoW P ⟨none, .ldo d x j base off e k⟩ F K X = (match getO F x, F.getD (base + off) .un with
    | .ptr j' off', .own e' k' rows => j' = j ∧ off' = off ∧ e' = e ∧ k' = k ∧ K ((F.set (base + off) (.pv (.one (.sl k rows)))).set d (.own e k rows))
    | .ptr j' off', .pv (.one (.nl _)) => j' = j ∧ off' = off ∧ K (F.set d (.own e k []))
    | _, _ => False) := rfl
theorem o_sto {j base off n : Nat} {x y : Opd} : hoW P ⟨none, .sto x j base off n y⟩ F K X = (match getO F x, (getO F y).pv? with
    | .ptr j' off', some p => j' = j ∧ off' = off ∧ p.cells.length = n ∧ (getO F y).need ∧ K (setCells F (base + off) (p.cells.map fun c => .pv (.one c)))
    | _, _ => False) := rfl
theorem o_stw {j base off y : Nat} {x : Opd} : hoW P ⟨none, .stw x j base off y⟩ F K X = (match getO F x, F.getD y .un with
    | .ptr j' off', .own e k rows => j' = j ∧ off' = off ∧ K ((F.set y (.pv (.one (.sl k rows)))).set (base + off) (.own e k rows))
    | _, _ => False) := rfl
theorem o_alloc {d j base : Nat} {cells : List PV} : hoW P ⟨none, .alloc d j base cells⟩ F K X = K (setCells ((F.map (killP j)).set d (.ptr j 0)) base (cells.map fun c => .pv (.one c))) := rfl
theorem o_box {d j base n : Nat} {x : Opd} : hoW P ⟨none, .box d j base n x⟩ F K X = (match (getO F x).pv? with
    | some p => p.cells.length = n ∧ (getO F x).need ∧ K (setCells ((F.map (killP j)).set d (.ptr j 0)) base (p.cells.map fun c => .pv (.one c)))
    | none => False) := rfl
theorem o_alo {d j base : Nat} {cells : List PV} : hoW P ⟨none, .alo d j base cells⟩ F K X = (F.getD base .un = .una ∧ K (setCells (F.set d (.ptr j 0)) base (cells.map fun c => .pv (.one c)))) := rfl
theorem o_bxo {d j base n : Nat} {x : Opd} : hoW P ⟨none, .bxo d j base n x⟩ F K X = (match (getO F x).pv? with
    | some p => p.cells.length = n ∧ (getO F x).need ∧ F.getD base .un = .una ∧ K (setCells (F.set d (.ptr j 0)) base (p.cells.map fun c => .pv (.one c)))
    | none => False) := rfl
theorem o_app {d e k x : Nat} {y : Opd} : hoW P ⟨none, .app d e k (.t x) y⟩ F K X = (match F.getD x .un, (getO F y).pv? with
    | .own e' k' rows, some (.one (.sl k'' rs)) => x ≠ d ∧ e' = e ∧ k' = k ∧ k'' = k ∧ (getO F y).need ∧ (rows.length + rs.length) * 4096 ≤ 140737488355328 ∧ K ((F.set x (.pv (.one (.sl k rows)))).set d (.own e k (rows ++ rs)))
    | _, _ => False) := rfl
theorem o_bsl {d e k : Nat} {parts : List Opd} : hoW P ⟨none, .bsl d e k parts⟩ F K X = ((rowsV F k parts).1 ∧ K (F.set d (.own e k (rowsV F k parts).2))) := rfl
theorem o_vnl {d e k : Nat} : hoW P ⟨none, .vnl d e k⟩ F K X = K (F.set d (.ov (.one (.os none e k [])))) := rfl
theorem o_vmv {d x : Nat} : hoW P ⟨none, .vmv d x⟩ F K X = (match F.getD x .un with
    | .ov v => d ≠ x ∧ K ((F.set x .un).set d (.ov v))
    | _ => False) := rfl
theorem o_vld {d j base off n : Nat} {x : Opd} {agg : Bool} : hoW P ⟨none, .vld d x j base off n agg⟩ F K X = (match getO F x, cellsOV F (base + off) n with
    | .ptr j' off', some cs => j' = j ∧ off' = off ∧ K ((setCells F (base + off) (leftCells F (base + off) n)).set d (.ov (mkOV agg cs)))
    | _, _ => False) := rfl
theorem o_vst {x : Opd} {j base off n y : Nat} : hoW P ⟨none, .vst x j base off n y⟩ F K X = (match getO F x, F.getD y .un with
    | .ptr j' off', .ov v => j' = j ∧ off' = off ∧ v.cells.length = n ∧ K (setCells (F.set y .un) (base + off) (v.cells.map ovCell))
    | _, _ => False) := rfl
theorem o_vap {d e k x : Nat} {y : Opd} : hoW P ⟨none, .vap d e k x y⟩ F K X = (match F.getD x .un with
    | .ov (.one (.os _ e' k' rows)) => (∀ n, y = .t n → x ≠ n) ∧ e' = e ∧ k' = k ∧ (srcR F k y).1 ∧ (rows.length + (srcR F k y).2.length) * 4096 ≤ 140737488355328 ∧ K ((clr F (F.set x .un) y).set d (.ov (.one (.os none e k (rows ++ (srcR F k y).2)))))
    | _ => False) := rfl
theorem o_vbs {d e k x : Nat} : hoW P ⟨none, .vbs d e k x⟩ F K X = (match F.getD x .un with
    | .ov v => v.cells.length = k ∧ K ((F.set x .un).set d (.ov (.one (.os none e k [v.cells]))))
    | _ => False) := rfl
theorem o_vle {d : Nat} {x : Opd} {r j base : Nat} {pt : List (Opd × Nat)} {n : Nat} {agg : Bool} : hoW P ⟨none, .vle d x r j base pt n agg⟩ F K X = atV F x r pt (fun root p b e k rows i f => f + n ≤ (rows.getD i []).length ∧
    K ((F.set r (.ov (.one (root.upd p (.os (some b) e k (rows.set i (layR (rows.getD i []) f ((((rows.getD i []).drop f).take n).map OV.left)))))))).set d (.ov (mkOV agg (((rows.getD i []).drop f).take n))))) := rfl
theorem o_vlp {d : Nat} {x : Opd} {r j base : Nat} {pt : List (Opd × Nat)} {n : Nat} {agg : Bool} : hoW P ⟨none, .vlp d x r j base pt n agg⟩ F K X = atV F x r pt (fun _ _ _ _ _ rows i f => f + n ≤ (rows.getD i []).length ∧ match plainL (((rows.getD i []).drop f).take n) with
    | some ps => K (F.set d (.pv (if agg then .agg ps else .one (ps.headD (.nl 0)))))
    | none => False) := rfl
theorem o_vlh {d : Nat} {x : Opd} {r j base : Nat} {pt : List (Opd × Nat)} : hoW P ⟨none, .vlh d x r j base pt⟩ F K X = atV F x r pt (fun _ _ _ _ _ rows i f => match (rows.getD i [])[f]? with
    | some (.os (some b2) _ k2 rows2) => K (F.set d (.hdp b2 k2 rows2.length))
    | some (.os none _ _ rows2) => K (F.set d (.hdr rows2.length))
    | _ => False) := rfl
theorem o_vse {x : Opd} {r j base : Nat} {pt : List (Opd × Nat)} {n : Nat} {y : Opd} : hoW P ⟨none, .vse x r j base pt n y⟩ F K X = atV F x r pt (fun root p b e k rows i f => (∀ s, y = .t s → s ≠ r) ∧ (srcV F y).1 ∧ (srcV F y).2.length = n ∧ f + n ≤ (rows.getD i []).length ∧
    K ((clr F F y).set r (.ov (.one (root.upd p (.os (some b) e k (rows.set i (layR (rows.getD i []) f (srcV F y).2)))))))) := rfl
/-- What 'atV' says, at a frame that is known. -/
theorem at_of {x : Opd} {r : Nat} {pt : List (Opd × Nat)} {KK : OV → List (Nat × Nat) → Nat → Nat → Nat → List (List OV) → Nat → Nat → Prop} {b k i f e : Nat} {root : OV} {p : List (Nat × Nat)} {rows : List (List OV)}
    (e1 : getO F x = .epp b k i f) (e2 : F.getD r .un = .ov (.one root)) (e3 : (pathV F pt).2 = p) (e4 : (pathV F pt).1) (e5 : root.get p = some (.os (some b) e k rows)) (hi : i < rows.length) (hk : KK root p b e k rows i f) : atV F x r pt KK := by
  unfold atV
  subst e3
  rw [e1, e2]
  simp only [e5]
  refine ⟨e4, ?_, ?_, hi, hk⟩ <;> first | trivial | rfl
theorem call_ov {f : FuncId} {args : List (Opd × AM)} {d : Option Nat} {v : OVal} {io : List PV} (h1 : (avsV F args).1) (h2 : Contract P f (avsV F args).2 { res := .ov v, io := io }) (h3 : K (setD (dropArgs F (some io) args) d (.ov v))) : hoW P ⟨none, .call d f args⟩ F K X :=
  ⟨h1, _, h2, h3⟩
theorem g_pin {s j base : Nat} {pt : List (Opd × Nat)} {r : List Gh} : ghW F K (.pin s j base pt :: r) = (match F.getD s .un with
    | .ov (.one root) => match root.get (pathV F pt).2 with
      | some (.os none e k rows) => (pathV F pt).1 ∧ ∀ b, ghW (F.set s (.ov (.one (root.upd (pathV F pt).2 (.os (some b) e k rows))))) K r
      | _ => False
    | _ => False) := rfl
theorem g_unp {s j base : Nat} {pt : List (Opd × Nat)} {r : List Gh} : ghW F K (.unp s j base pt :: r) = (match F.getD s .un with
    | .ov (.one root) => match root.get (pathV F pt).2 with
      | some (.os _ e k rows) => (pathV F pt).1 ∧ ghW (F.set s (.ov (.one (root.upd (pathV F pt).2 (.os none e k rows))))) K r
      | _ => False
    | _ => False) := rfl
theorem g_vfr {s j base : Nat} {r : List Gh} : ghW F K (.vfr s j base :: r) = (match F.getD s .un with
    | .ov (.one root) => match root.frz with
      | some x => ghW (F.set s (.pv (.one x))) K r
      | none => False
    | .ov (.agg cs) => match frzL cs with
      | some xs => ghW (F.set s (.pv (.agg xs))) K r
      | none => False
    | _ => False) := rfl
theorem p_nil : pathV F [] = (True, []) := rfl
theorem frz_p {x : PV} : (OV.p x).frz = some x := rfl
theorem get_nil {x : OV} : x.get [] = some x := by cases x <;> rfl
theorem upd_nil {x y : OV} : x.upd [] y = y := by cases x <;> rfl
theorem frz_os {b : Option Nat} {e k : Nat} {rows : List (List OV)} {rs : List (List PV)} (h : frzRows rows = some rs) : (OV.os b e k rows).frz = some (.sl k rs) := by simp only [OV.frz, h]
theorem frzL_p : ∀ (r : List PV), frzL (r.map OV.p) = some r
  | [] => rfl
  | x :: r => by simp only [List.map_cons, frzL, OV.frz, frzL_p r]
theorem frzRows_p : ∀ (rows : List (List PV)), frzRows (rows.map fun r => r.map OV.p) = some rows
  | [] => rfl
  | r :: rows => by simp only [List.map_cons, frzRows, frzL_p, frzRows_p rows]
theorem o_pan {x : Opd} : hoW P ⟨none, .pan x⟩ F K X = (match (getO F x).pv? with
    | some (.one (.v (.iface t u))) => (getO F x).need ∧ X (.iface t u) F
    | _ => False) := rfl
/-! ### The end -/

section
variable {E : Env} {base : Nat} {av : List AV} {t : Nat} {x : PVal}
theorem fin_val {p : PVal} (e : (getO F (.t t)).pv? = some p) (n : (getO F (.t t)).need) (h : x = p ∨ x = p.norm) (hio : ioOf av = none := by rfl) : finQ E base av [.tmp t] { res := .val x } .ret F := by
  refine ⟨?_, fun cs h => by rw [hio] at h; cases h⟩
  simp only [finRes, rsV, e]
  exact ⟨n, h⟩
theorem fin_valio {p : PVal} {cells io : List PV} (e : (getO F (.t t)).pv? = some p) (n : (getO F (.t t)).need) (h : x = p ∨ x = p.norm) (hio : ioOf av = some cells) (hc : cellsPV F base cells.length = some io) : finQ E base av [.tmp t] { res := .val x, io := io } .ret F := by
  refine ⟨?_, fun cs h => by rw [hio] at h; injection h with h; subst h; exact hc⟩
  simp only [finRes, rsV, e]
  exact ⟨n, h⟩
theorem fin_own {e k : Nat} {rows : List (List PV)} (h : F.getD t .un = .own e k rows) (hio : ioOf av = none := by rfl) : finQ E base av [.tmp t] { res := .own e k rows } .ret F :=
  ⟨h, fun cs h => by rw [hio] at h; cases h⟩
theorem fin_ov {v : OVal} (h : F.getD t .un = .ov v) (hio : ioOf av = none := by rfl) : finQ E base av [.tmp t] { res := .ov v } .ret F :=
  ⟨h, fun cs h => by rw [hio] at h; cases h⟩
theorem fin_cellOV {j bs off n : Nat} {agg : Bool} {cs : List OV} {v : OVal} (e : F.getD t .un = .ptr j off) (h : cellsOV F (bs + off) n = some cs) (hx : v = mkOV agg cs) (hio : ioOf av = none := by rfl) : finQ E base av [.cellB t j bs off n agg] { res := .ov v } .ret F :=
  ⟨⟨e, cs, h, hx⟩, fun _ h => by rw [hio] at h; cases h⟩
theorem fin_unio {cells io : List PV} (hio : ioOf av = some cells) (hc : cellsPV F base cells.length = some io) : finQ E base av [] { res := .tup [], io := io } .ret F :=
  ⟨rfl, fun cs h => by rw [hio] at h; injection h with h; subst h; exact hc⟩
theorem fin_tup {rs : List RSrc} {xs : List PVal} (hn : ∀ r, rs ≠ [r]) (h : rsVs F rs xs) (hio : ioOf av = none := by rfl) : finQ E base av rs { res := .tup xs } .ret F := by
  refine ⟨?_, fun cs h => by rw [hio] at h; cases h⟩
  simp only [finRes]
  first
    | exact h
    | (split
       · rename_i r; exact (hn r rfl).elim
       · exact h)
theorem fin_tupio {rs : List RSrc} {xs : List PVal} {cells io : List PV} (hn : ∀ r, rs ≠ [r]) (h : rsVs F rs xs) (hio : ioOf av = some cells) (hc : cellsPV F base cells.length = some io) : finQ E base av rs { res := .tup xs, io := io } .ret F := by
  refine ⟨?_, fun cs h => by rw [hio] at h; injection h with h; subst h; exact hc⟩
  simp only [finRes]
  first
    | exact h
    | (split
       · rename_i r; exact (hn r rfl).elim
       · exact h)
theorem fin_cellBn {j bs off n : Nat} {agg : Bool} {cs : List PV} (e : F.getD t .un = .ptr j off) (h : cellsPV F (bs + off) n = some cs) (hx : x = (if agg then PVal.agg cs else .one (cs.headD (.nl 0))) ∨ x = (if agg then PVal.agg cs else .one (cs.headD (.nl 0))).norm) (hio : ioOf av = none := by rfl) : finQ E base av [.cellB t j bs off n agg] { res := .val x } .ret F := by
  refine ⟨?_, fun cs h => by rw [hio] at h; cases h⟩
  simp only [finRes, rsV, e, h]
  exact ⟨trivial, trivial, hx⟩
theorem fin_cellB {j bs off n : Nat} {agg : Bool} {cs : List PV} (e : F.getD t .un = .ptr j off) (h : cellsPV F (bs + off) n = some cs) (hx : x = if agg then .agg cs else .one (cs.headD (.nl 0))) (hio : ioOf av = none := by rfl) : finQ E base av [.cellB t j bs off n agg] { res := .val x } .ret F := fin_cellBn e h (.inl hx) hio
theorem rs_tmp {p : PVal} (e : (getO F (.t t)).pv? = some p) (n : (getO F (.t t)).need) (h : x = p ∨ x = p.norm) : rsV F (.tmp t) x := by
  simp only [rsV, e]; exact ⟨n, h⟩
theorem rs_cellB {j bs off n : Nat} {agg : Bool} {cs : List PV} (e : F.getD t .un = .ptr j off) (h : cellsPV F (bs + off) n = some cs) (hx : x = (if agg then PVal.agg cs else .one (cs.headD (.nl 0))) ∨ x = (if agg then PVal.agg cs else .one (cs.headD (.nl 0))).norm) : rsV F (.cellB t j bs off n agg) x := by
  simp only [rsV, e, h]; exact ⟨trivial, trivial, hx⟩
theorem fin_pan {v : Value} {rs : List RSrc} : finQ E base av rs { res := .pan v } (.panic [{ v, recovered := false }]) F := ⟨v, rfl, rfl⟩
end

end

/-! The walk: these rules, in the set that the kit has. -/
attribute [go_sem ↓] gsel_t gsel_f w_skip w_reg w_drg w_rdr k_nil k_cons dk_nil dk_cons k_gh k_nrm k_panX k_panA k_dX k_bk o_nlk o_mvk o_trk o_apk o_isn w_seq w_block w_exit w_ret q_then1 q_then2 q_then3 q_then4 q_blk1 q_blk2 q_blk3 q_blk4 o_vnl o_vmv o_vld o_vst o_vap o_vbs g_pin g_unp g_vfr o_val o_guard o_mvo o_nlo o_ldo o_sto o_stw o_alloc o_box o_alo o_bxo o_app o_bsl o_pan d_nil d_val d_guard g_nil g_forget g_frz
attribute [go_sem] bys_mk implies_true and_self imp_and_l Bool.not_eq_true' Bool.not_eq_false' Bool.not_not decide_eq_true_eq decide_eq_false_iff_not Nat.not_lt Int.not_lt Int.not_le gt_iff_lt ge_iff_le le_nat0 p_nil get_nil upd_nil OVal.cells ovCell cellOV cellsOV leftC leftCells mkOV srcV srcR clr get_here get_next set_here set_next ev getO Ct.pv? Ct.need intsV strsV true_and and_true guardB dsts atomC b_nil b_cons List.cons_append List.nil_append f_nil f_cons c_nil c_cons sets_nil sets_cons bndV rowsV partsV layOver PVal.cells PVal.norm PV.norm cellsPV cellPV avsV killP frzC setD dropArgs dropOwn ownKey dropIo ioKey ioCells if_true if_false Bool.false_eq_true imp_self forall_const List.map_cons List.map_nil List.length_cons List.length_nil Nat.zero_add ite_true ite_false List.take_succ_cons List.take_zero List.drop_zero List.drop_succ_cons List.headD_cons Nat.le_refl beq_true beq_false cond_true cond_false Bool.and_true Bool.true_and Bool.and_false Bool.false_and Int.toNat_natCast ne_eq not_false_eq_true not_true_eq_false List.getElem?_cons_zero List.getElem?_cons_succ capsV List.replicate bad
end Go.Hx
