/-
  THE ABSTRACT LAYER, SIXTH TEXT: all operations on the abstract frame; each is sound. Generic over the program. No condition.
-/
import Derived.Test.YtjnagiaooecklaaDoorHxE
set_option linter.all false
namespace Go.Hx
open Go.RowKit
variable [Glob]

/-- How an argument is handed over: v: read alone; o: a slice that may be appended to, out of its slot; n: the nil slice as such a one; r: just as it is; i: a pointer to box j. -/
inductive AM where
  | v
  | o
  | n (e k : Nat)
  | i (j base sz : Nat)
  | r
  deriving Inhabited

inductive HOp where
  | val (d : Nat) (v : VOp)
  | call (d : Option Nat) (f : Nat) (args : List (Opd × AM))
  | callv (d : Option Nat) (x : Opd) (args : List (Opd × AM))
  | mvo (d x : Nat)
  | nlo (d e k : Nat)
  | ldo (d : Nat) (x : Opd) (j base off e k : Nat)
  | sto (x : Opd) (j base off n : Nat) (y : Opd)
  | stw (x : Opd) (j base off : Nat) (y : Nat)
  | alloc (d j base : Nat) (cells : List PV)
  | box (d j base n : Nat) (x : Opd)
  | alo (d j base : Nat) (cells : List PV)
  | bxo (d j base n : Nat) (x : Opd)
  | app (d e k : Nat) (x : Opd) (y : Opd)
  | bsl (d e k : Nat) (parts : List Opd)
  | pan (x : Opd)
  | nlk (d e k : Nat)
  | mvk (d x : Nat)
  | trk (d x : Nat) (hi : Opd)
  | apk (d e k x : Nat) (y : Opd)
  | isn (d : Nat) (ng : Bool) (x : Opd)
  | vnl (d e k : Nat)
  | vmv (d x : Nat)
  | vld (d : Nat) (x : Opd) (j base off n : Nat) (agg : Bool)
  | vst (x : Opd) (j base off n y : Nat)
  | vap (d e k x : Nat) (y : Opd)
  | vbs (d e k x : Nat)
  | vle (d : Nat) (x : Opd) (r j base : Nat) (pt : List (Opd × Nat)) (n : Nat) (agg : Bool)
  | vlp (d : Nat) (x : Opd) (r j base : Nat) (pt : List (Opd × Nat)) (n : Nat) (agg : Bool)
  | vlh (d : Nat) (x : Opd) (r j base : Nat) (pt : List (Opd × Nat))
  | vse (x : Opd) (r j base : Nat) (pt : List (Opd × Nat)) (n : Nat) (y : Opd)
  deriving Inhabited

structure HO where
  g : Option (Nat × Bool) := none
  op : HOp
  deriving Inhabited

/-- The arguments as the contract takes them. -/
def avsV (F : List Ct) : List (Opd × AM) → Prop × List AV
  | [] => (True, [])
  | (x, .v) :: r => match (getO F x).pv? with
    | some p => ((getO F x).need ∧ (avsV F r).1, .val p.norm :: (avsV F r).2)
    | none => (False, [])
  | (x, .r) :: r => match (getO F x).pv? with
    | some p => ((getO F x).need ∧ (avsV F r).1, .val p :: (avsV F r).2)
    | none => (False, [])
  | (x, .o) :: r => match getO F x with
    | .own e k rows => ((avsV F r).1, .own e k rows :: (avsV F r).2)
    | _ => (False, [])
  | (x, .n e k) :: r => match getO F x with
    | .pv (.one (.nl _)) => ((avsV F r).1, .own e k [] :: (avsV F r).2)
    | _ => (False, [])
  | (x, .i j base sz) :: r => match getO F x, cellsPV F base sz with
    | .ptr j' 0, some cs => (j' = j ∧ (avsV F r).1, .io cs :: (avsV F r).2)
    | _, _ => (False, [])

def setCells (F : List Ct) (i : Nat) : List Ct → List Ct
  | [] => F
  | c :: cs => setCells (F.set i c) (i + 1) cs

def ownKey : List (Opd × AM) → Option Nat
  | (x, .o) :: _ => match x with | .t n => some n | _ => none
  | (_, .n _ _) :: _ => none
  | (_, .v) :: r => ownKey r
  | (_, .i _ _ _) :: r => ownKey r
  | (_, .r) :: r => ownKey r
  | [] => none
def ioKey : List (Opd × AM) → Option (Nat × Nat × Nat)
  | (_, .i j base sz) :: _ => some (j, base, sz)
  | (_, .o) :: r => ioKey r
  | (_, .n _ _) :: r => ioKey r
  | (_, .r) :: r => ioKey r
  | (_, .v) :: r => ioKey r
  | [] => none

/-- What becomes of the arguments' slots and boxes. -/
def dropOwn (F : List Ct) : Option Nat → List Ct
  | some n => match F.getD n .un with | .own _ k rows => F.set n (.pv (.one (.sl k rows))) | _ => F
  | none => F
def ioCells (sz : Nat) : Option (List PV) → List Ct
  | some l => (l.map fun x => .pv (.one x)).take sz
  | none => List.replicate sz .un
def dropIo (F : List Ct) (io : Option (List PV)) : Option (Nat × Nat × Nat) → List Ct
  | some (_, base, sz) => setCells F base (ioCells sz io)
  | none => F
def dropArgs (F : List Ct) (io : Option (List PV)) (args : List (Opd × AM)) : List Ct := dropIo (dropOwn F (ownKey args)) io (ioKey args)

def resC : Res → Ct
  | .val x => .pv x
  | .own e k rows => .own e k rows
  | .tup [] => .un
  | .tup xs => .tup xs
  | .pan _ => .un
  | .ov x => .ov x

def setD (F : List Ct) (d : Option Nat) (c : Ct) : List Ct := match d with | some d => F.set d c | none => F
def setRes (F : List Ct) (d : Option Nat) (r : Res) : List Ct := setD F d (resC r)

def killP (j : Nat) : Ct → Ct
  | .ptr j' off => if j' = j then .un else .ptr j' off
  | c => c

/-! #### Owned trees -/

def OVal.cells : OVal → List OV
  | .one x => [x]
  | .agg cs => cs
def ovCell : OV → Ct
  | .p x => .pv (.one x)
  | o => .ov (.one o)
def cellOV : Ct → Option OV
  | .pv (.one x) => some (.p x.norm)
  | .own _ k rows => some (.p (.sl k rows))
  | .ov (.one x) => some x
  | _ => none
def cellsOV (F : List Ct) (i : Nat) : Nat → Option (List OV)
  | 0 => some []
  | n + 1 => match cellOV (F.getD i .un), cellsOV F (i + 1) n with
    | some x, some xs => some (x :: xs)
    | _, _ => none
def leftC : Ct → Ct
  | .ov _ => .un
  | c => c
def leftCells (F : List Ct) (i : Nat) : Nat → List Ct
  | 0 => []
  | n + 1 => leftC (F.getD i .un) :: leftCells F (i + 1) n
def mkOV (agg : Bool) (cs : List OV) : OVal := if agg then .agg cs else .one (cs.headD .hole)
/-- Where a place's indexes stand. -/
def pathV (F : List Ct) : List (Opd × Nat) → Prop × List (Nat × Nat)
  | [] => (True, [])
  | (x, c) :: r => match (getO F x).pv? with
    | some (.one (.v (.int _ n))) => ((getO F x).need ∧ 0 ≤ n ∧ (pathV F r).1, (n.toNat, c) :: (pathV F r).2)
    | _ => (False, [])
/-- What is stored: an owned tree out of its slot, or plain data. -/
def srcV (F : List Ct) (y : Opd) : Prop × List OV := match getO F y with
  | .ov v => (True, v.cells)
  | c => match c.pv? with
    | some p => (c.need, p.norm.cells.map .p)
    | none => (False, [])
def srcR (F : List Ct) (k : Nat) (y : Opd) : Prop × List (List OV) := match getO F y with
  | .ov (.one (.os _ _ k' rs)) => (k' = k, rs)
  | c => match c.pv? with
    | some (.one (.sl k' rs)) => (c.need ∧ k' = k, rs.map fun r => r.map .p)
    | _ => (False, [])
/-- Its slot is empty then. -/
def clr (F G : List Ct) (y : Opd) : List Ct := match y with
  | .t n => match F.getD n .un with | .ov _ => G.set n .un | _ => G
  | _ => G
def plainL : List OV → Option (List PV)
  | [] => some []
  | .p x :: r => match plainL r with | some xs => some (x :: xs) | none => none
  | _ => none

/-- Pointer x points into the tree that slot (or cell) r has: the slice there, its row, the place in the row. -/
def atV (F : List Ct) (x : Opd) (r : Nat) (pt : List (Opd × Nat)) (K : OV → List (Nat × Nat) → Nat → Nat → Nat → List (List OV) → Nat → Nat → Prop) : Prop :=
  match getO F x, F.getD r .un with
  | .epp b k i f, .ov (.one root) => match root.get (pathV F pt).2 with
    | some (.os (some b') e k' rows) => (pathV F pt).1 ∧ b' = b ∧ k' = k ∧ i < rows.length ∧ K root (pathV F pt).2 b e k rows i f
    | _ => False
  | _, _ => False

def callW (P : Program) (f : FuncId) (avs : Prop × List AV) (F0 : Option (List PV) → List Ct) (d : Option Nat) (K : List Ct → Prop) (X : Value → List Ct → Prop) : Prop :=
  avs.1 ∧ ∃ r, Contract P f avs.2 r ∧ match r.res with
    | .pan v => X v (F0 none)
    | res => K (setRes (F0 (some r.io)) d res)

def opW (P : Program) (o : HOp) (F : List Ct) (K : List Ct → Prop) (X : Value → List Ct → Prop) : Prop :=
  match o with
  | .val d v => (ev F v).1 ∧ K (F.set d (ev F v).2)
  | .call d f args => callW P f (avsV F args) (fun io => dropArgs F io args) d K X
  | .callv d x args => match (getO F x).pv? with
    | some (.one (.clo f caps)) => (getO F x).need ∧ callW P f ((avsV F args).1, (avsV F args).2 ++ caps.map fun c => .val (.one c)) (fun io => dropArgs F io args) d K X
    | _ => False
  | .mvo d x => match F.getD x .un with
    | .own e k rows => d ≠ x ∧ K ((F.set x (.pv (.one (.sl k rows)))).set d (.own e k rows))
    | _ => False
  | .nlo d e k => K (F.set d (.own e k []))
  | .ldo d x j base off e k => match getO F x, F.getD (base + off) .un with
    | .ptr j' off', .own e' k' rows => j' = j ∧ off' = off ∧ e' = e ∧ k' = k ∧ K ((F.set (base + off) (.pv (.one (.sl k rows)))).set d (.own e k rows))
    | .ptr j' off', .pv (.one (.nl _)) => j' = j ∧ off' = off ∧ K (F.set d (.own e k []))
    | _, _ => False
  | .sto x j base off n y => match getO F x, (getO F y).pv? with
    | .ptr j' off', some p => j' = j ∧ off' = off ∧ p.cells.length = n ∧ (getO F y).need ∧ K (setCells F (base + off) (p.cells.map fun c => .pv (.one c)))
    | _, _ => False
  | .stw x j base off y => match getO F x, F.getD y .un with
    | .ptr j' off', .own e k rows => j' = j ∧ off' = off ∧ K ((F.set y (.pv (.one (.sl k rows)))).set (base + off) (.own e k rows))
    | _, _ => False
  | .alloc d j base cells => K (setCells ((F.map (killP j)).set d (.ptr j 0)) base (cells.map fun c => .pv (.one c)))
  | .box d j base n x => match (getO F x).pv? with
    | some p => p.cells.length = n ∧ (getO F x).need ∧ K (setCells ((F.map (killP j)).set d (.ptr j 0)) base (p.cells.map fun c => .pv (.one c)))
    | none => False
  | .alo d j base cells => F.getD base .un = .una ∧ K (setCells (F.set d (.ptr j 0)) base (cells.map fun c => .pv (.one c)))
  | .bxo d j base n x => match (getO F x).pv? with
    | some p => p.cells.length = n ∧ (getO F x).need ∧ F.getD base .un = .una ∧ K (setCells (F.set d (.ptr j 0)) base (p.cells.map fun c => .pv (.one c)))
    | none => False
  | .app d e k x y => match getO F x, (getO F y).pv? with
    | .own e' k' rows, some (.one (.sl k'' rs)) => (match x with | .t n => n ≠ d | _ => False) ∧ e' = e ∧ k' = k ∧ k'' = k ∧ (getO F y).need ∧ (rows.length + rs.length) * 4096 ≤ 140737488355328 ∧ K ((match x with | .t n => F.set n (.pv (.one (.sl k rows))) | _ => F).set d (.own e k (rows ++ rs)))
    | _, _ => False
  | .bsl d e k parts => (rowsV F k parts).1 ∧ K (F.set d (.own e k (rowsV F k parts).2))
  | .pan x => match (getO F x).pv? with
    | some (.one (.v (.iface t u))) => (getO F x).need ∧ X (.iface t u) F
    | _ => False
  | .nlk d e k => K (F.set d (.stk e k []))
  | .mvk d x => match F.getD x .un with
    | .stk e k rows => d ≠ x ∧ K ((F.set x (.hdr rows.length)).set d (.stk e k rows))
    | _ => False
  | .trk d x hi => match F.getD x .un, (getO F hi).pv? with
    | .stk e k rows, some (.one (.v (.int _ n))) => d ≠ x ∧ (getO F hi).need ∧ 0 ≤ n ∧ n ≤ rows.length ∧ K ((F.set x (.hdr rows.length)).set d (.stk e k (rows.take n.toNat)))
    | _, _ => False
  | .apk d e k x y => match F.getD x .un, (getO F y).pv? with
    | .stk e' k' rows, some (.one (.sl k'' rs)) => x ≠ d ∧ e' = e ∧ k' = k ∧ k'' = k ∧ (getO F y).need ∧ (rows.length + rs.length) * 4096 ≤ 140737488355328 ∧ K ((F.set x (.hdr rows.length)).set d (.stk e k (rows ++ rs)))
    | _, _ => False
  | .isn d ng x => match (getO F x).pv? with
    | some (.one (.sl _ rows)) => (getO F x).need ∧ ∀ b : Bool, (rows ≠ [] → b = false) → K (F.set d (.pv (bv (if ng then !b else b))))
    | some (.one (.nl _)) => (getO F x).need ∧ K (F.set d (.pv (bv (!ng))))
    | _ => False
  | .vnl d e k => K (F.set d (.ov (.one (.os none e k []))))
  | .vmv d x => match F.getD x .un with
    | .ov v => d ≠ x ∧ K ((F.set x .un).set d (.ov v))
    | _ => False
  | .vld d x j base off n agg => match getO F x, cellsOV F (base + off) n with
    | .ptr j' off', some cs => j' = j ∧ off' = off ∧ K ((setCells F (base + off) (leftCells F (base + off) n)).set d (.ov (mkOV agg cs)))
    | _, _ => False
  | .vst x j base off n y => match getO F x, F.getD y .un with
    | .ptr j' off', .ov v => j' = j ∧ off' = off ∧ v.cells.length = n ∧ K (setCells (F.set y .un) (base + off) (v.cells.map ovCell))
    | _, _ => False
  | .vap d e k x y => match F.getD x .un with
    | .ov (.one (.os _ e' k' rows)) => (∀ n, y = .t n → x ≠ n) ∧ e' = e ∧ k' = k ∧ (srcR F k y).1 ∧ (rows.length + (srcR F k y).2.length) * 4096 ≤ 140737488355328 ∧ K ((clr F (F.set x .un) y).set d (.ov (.one (.os none e k (rows ++ (srcR F k y).2)))))
    | _ => False
  | .vbs d e k x => match F.getD x .un with
    | .ov v => v.cells.length = k ∧ K ((F.set x .un).set d (.ov (.one (.os none e k [v.cells]))))
    | _ => False
  | .vle d x r _ _ pt n agg => atV F x r pt fun root p b e k rows i f => f + n ≤ (rows.getD i []).length ∧
    K ((F.set r (.ov (.one (root.upd p (.os (some b) e k (rows.set i (layR (rows.getD i []) f ((((rows.getD i []).drop f).take n).map OV.left)))))))).set d (.ov (mkOV agg (((rows.getD i []).drop f).take n))))
  | .vlp d x r _ _ pt n agg => atV F x r pt fun _ _ _ _ _ rows i f => f + n ≤ (rows.getD i []).length ∧ match plainL (((rows.getD i []).drop f).take n) with
    | some ps => K (F.set d (.pv (if agg then .agg ps else .one (ps.headD (.nl 0)))))
    | none => False
  | .vlh d x r _ _ pt => atV F x r pt fun _ _ _ _ _ rows i f => match (rows.getD i [])[f]? with
    | some (.os (some b2) _ k2 rows2) => K (F.set d (.hdp b2 k2 rows2.length))
    | some (.os none _ _ rows2) => K (F.set d (.hdr rows2.length))
    | _ => False
  | .vse x r _ _ pt n y => atV F x r pt fun root p b e k rows i f => (∀ s, y = .t s → s ≠ r) ∧ (srcV F y).1 ∧ (srcV F y).2.length = n ∧ f + n ≤ (rows.getD i []).length ∧
    K ((clr F F y).set r (.ov (.one (root.upd p (.os (some b) e k (rows.set i (layR (rows.getD i []) f (srcV F y).2)))))))

/-- Is the guard's Bool known, and what is it? -/
def guardB (F : List Ct) (g : Nat × Bool) : Option Bool :=
  match F.getD g.1 .un with
  | .pv (.one (.v (.bool t))) => some (if g.2 then t else !t)
  | .gd t1 (.one (.v (.bool t))) => some (t1 && (if g.2 then t else !t))
  | _ => none

def allV (args : List (Opd × AM)) : Bool := args.all fun x => match x.2 with | .v => true | _ => false

def hoW (P : Program) (o : HO) (F : List Ct) (K : List Ct → Prop) (X : Value → List Ct → Prop) : Prop :=
  match o.g with
  | none => opW P o.op F K X
  | some g => match guardB F g with
    | none => False
    | some T => match o.op with
      | .val d v => match (ev F v).2 with
        | .pv x => (T = true → (ev F v).1) ∧ K (F.set d (.gd T x))
        | _ => match T with
          | true => (ev F v).1 ∧ K (F.set d (ev F v).2)
          | false => K (F.set d (.gd false (bv false)))
      | .call (some d) f args => (T = true → (avsV F args).1) ∧ ∃ x, (T = true → Contract P f (avsV F args).2 { res := .val x }) ∧ K (F.set d (.gd T x))
      | .callv (some d) y args => match (getO F y).pv? with
        | some (.one (.clo f caps)) => (T = true → (getO F y).need ∧ (avsV F args).1) ∧ ∃ x, (T = true → Contract P f ((avsV F args).2 ++ caps.map fun c => .val (.one c)) { res := .val x }) ∧ K (F.set d (.gd T x))
        | _ => False
      | _ => False

def opsW (P : Program) : List HO → List Ct → (List Ct → Prop) → (Value → List Ct → Prop) → Prop
  | [], F, K, _ => K F
  | o :: os, F, K, X => hoW P o F (fun F' => opsW P os F' K X) X

/-- An operation of a region that draws its order: it reads alone, or it calls and a plain value comes. -/
def quW (P : Program) (o : HO) (F : List Ct) (K : List Ct → Prop) : Prop :=
  match o.op with
  | .val d v => match o.g with
    | none => (ev F v).1 ∧ K (F.set d (ev F v).2)
    | some g => match guardB F g with
      | none => False
      | some T => match (ev F v).2 with
        | .pv x => (T = true → (ev F v).1) ∧ K (F.set d (.gd T x))
        | _ => T = false ∧ K (F.set d (.gd T (bv false)))
  | .call (some d) f args => match o.g with
    | none => (avsV F args).1 ∧ ∃ x, Contract P f (avsV F args).2 { res := .val (.one (.v x)) } ∧ K (F.set d (.pv (.one (.v x))))
    | some g => match guardB F g with
      | none => False
      | some T => (T = true → (avsV F args).1) ∧ ∃ x, (T = true → Contract P f (avsV F args).2 { res := .val (.one (.v x)) }) ∧ K (F.set d (.gd T (.one (.v x))))
  | _ => False

def drwW (P : Program) : List HO → List Ct → (List Ct → Prop) → Prop
  | [], F, K => K F
  | o :: os, F, K => quW P o F (fun F' => drwW P os F' K)

/-- Does it read alone (or call)? -/
def HO.quiet (o : HO) : Bool := match o.op with
  | .val _ v => v.reads
  | .call (some _) _ args => allV args
  | _ => false

/-! ### Does it stand for the model's? -/

def boxIs (E : Env) (j base n : Nat) : Bool := match E.Γ[j]? with | some bn => bn.1 == base && bn.2 == n | none => false
def boxHas (E : Env) (j base top : Nat) : Bool := match E.Γ[j]? with | some bn => bn.1 == base && decide (top ≤ bn.2) | none => false

def argsOk (E : Env) : List (Opd × AM) → List Operand → Bool
  | [], [] => true
  | (x, m) :: r, y :: ys => opdOk E.N x y && (match m with | .i j base sz => boxIs E j base sz | .o => (match x with | .t _ => true | _ => false) | _ => true) && argsOk E r ys
  | _, _ => false

def dstOk (N : Nat) : Option Nat → Option Nat → Bool
  | none, none => true
  | some d, some d' => d == d' && decide (d < N)
  | _, _ => false

def elemOk (P : Program) (t e k : Nat) : Bool := match sliceElem? P t with | some e' => e' == e && szOf P e == some k && decide (0 < k) && (match (P.info? e) with | some i => decide (i.bytes ≤ 4096) && (match i.zero with | some z => z.cells.size == k | none => false) | none => false) | none => false

/-- A slot, or a cell of box j. -/
def rootOk (E : Env) (r j base : Nat) : Bool := decide (r < E.N) || (decide (base ≤ r) && boxHas E j base (r - base + 1))
/-- The indexes stand in slots (what they hold is read off the abstract frame alone). -/
def pathOk (N : Nat) (pt : List (Opd × Nat)) : Bool := pt.all fun x => match x.1 with | .t n => decide (n < N) | .c _ => true | _ => false

def hchk (P : Program) (E : Env) (o : HOp) (op : Op) (dst : Option Nat) : Bool :=
  match o with
  | .val d v => dstOk E.N (some d) dst && vchk P E v op
  | .call d f args => (match op with | .call c => dstOk E.N d dst && (match c.callee with | .value (.func g) => g == f | _ => false) && argsOk E args c.args.toList | _ => false)
  | .callv d x args => (match op with | .call c => dstOk E.N d dst && (match c.callee with | .value y => opdOk E.N x y | _ => false) && allV args && argsOk E args c.args.toList | _ => false)
  | .mvo d x => dstOk E.N (some d) dst && (match op with | .move y => opdOk E.N (.t x) y | .assign y => opdOk E.N (.t x) y | _ => false)
  | .nlo d _ _ => dstOk E.N (some d) dst && (match op with | .move y => opdOk E.N (.c (.one (.nl 0))) y | .assign y => opdOk E.N (.c (.one (.nl 0))) y | _ => false)
  | .ldo d x j base off _ _ => dstOk E.N (some d) dst && (match op with | .load t y => opdOk E.N x y && boxHas E j base (off + 1) && isAggT P t == some false | _ => false)
  | .sto x j base off n y => dst.isNone && (match op with | .store t x' y' => opdOk E.N x x' && opdOk E.N y y' && boxHas E j base (off + n) && szOf P t == some n | _ => false)
  | .stw x j base off y => dst.isNone && (match op with | .store t x' y' => opdOk E.N x x' && opdOk E.N (.t y) y' && boxHas E j base (off + 1) && szOf P t == some 1 | _ => false)
  | .alloc d j base cells => decide (E.nfix ≤ j) && dstOk E.N (some d) dst && boxIs E j base cells.length && (match op with | .alloc t => (match (P.info? t).bind (·.zero) with | some z => zeroOk cells z.cells.toList | none => false) | _ => false)
  | .box d j base n x => decide (E.nfix ≤ j) && dstOk E.N (some d) dst && boxIs E j base n && (match op with | .box _ y => opdOk E.N x y | _ => false)
  | .alo d j base cells => decide (E.nfix ≤ j) && dstOk E.N (some d) dst && boxIs E j base cells.length && decide (0 < cells.length) && (match op with | .alloc t => (match (P.info? t).bind (·.zero) with | some z => zeroOk cells z.cells.toList | none => false) | _ => false)
  | .bxo d j base n x => decide (E.nfix ≤ j) && dstOk E.N (some d) dst && boxIs E j base n && decide (0 < n) && (match op with | .box _ y => opdOk E.N x y | _ => false)
  | .app d e k x y => dstOk E.N (some d) dst && (match op with | .call c => (match c.callee with | .builtin .append => true | _ => false) && (match c.args.toList, c.argTypes.toList with | [x', y'], [t, t'] => opdOk E.N x x' && opdOk E.N y y' && t == t' && elemOk P t e k | _, _ => false) | _ => false)
  | .bsl d e k parts => dstOk E.N (some d) dst && (match op with | .buildSlice t n ps => rowsOk E.N 0 parts ps.toList && n == parts.length && decide (n * k ≤ 2 ^ 24) && elemOk P t e k | _ => false)
  | .pan x => (match op with | .call c => (match c.callee with | .builtin .panic => true | _ => false) && (match c.args.toList with | [y] => opdOk E.N x y | _ => false) | .panic y => opdOk E.N x y | _ => false)
  | .nlk d _ _ => dstOk E.N (some d) dst && (match op with | .move y => opdOk E.N (.c (.one (.nl 0))) y | .assign y => opdOk E.N (.c (.one (.nl 0))) y | _ => false)
  | .mvk d x => dstOk E.N (some d) dst && (match op with | .move y => opdOk E.N (.t x) y | .assign y => opdOk E.N (.t x) y | _ => false)
  | .trk d x hi => dstOk E.N (some d) dst && (match op with | .slice t y lo' hi' mx => mx.isNone && lo'.isNone && opdOk E.N (.t x) y && optOk E.N (some hi) hi' && (match sliceElem? P t with | some e => (szOf P e).isSome | none => false) | _ => false)
  | .apk d e k x y => dstOk E.N (some d) dst && (match op with | .call c => (match c.callee with | .builtin .append => true | _ => false) && (match c.args.toList, c.argTypes.toList with | [x', y'], [t, t'] => opdOk E.N (.t x) x' && opdOk E.N y y' && t == t' && elemOk P t e k | _, _ => false) | _ => false)
  | .vnl d _ _ => dstOk E.N (some d) dst && (match op with | .move y => opdOk E.N (.c (.one (.nl 0))) y | .assign y => opdOk E.N (.c (.one (.nl 0))) y | _ => false)
  | .vmv d x => dstOk E.N (some d) dst && (match op with | .move y => opdOk E.N (.t x) y | .assign y => opdOk E.N (.t x) y | _ => false)
  | .vld d x j base off n agg => dstOk E.N (some d) dst && (match op with | .load t y => opdOk E.N x y && boxHas E j base (off + n) && isAggT P t == some agg && szOf P t == some n && (agg || n == 1) | _ => false)
  | .vst x j base off n y => dst.isNone && (match op with | .store t x' y' => opdOk E.N x x' && opdOk E.N (.t y) y' && boxHas E j base (off + n) && szOf P t == some n | _ => false)
  | .vap d e k x y => dstOk E.N (some d) dst && (match op with | .call c => (match c.callee with | .builtin .append => true | _ => false) && (match c.args.toList, c.argTypes.toList with | [x', y'], [t, t'] => opdOk E.N (.t x) x' && opdOk E.N y y' && t == t' && elemOk P t e k | _, _ => false) | _ => false)
  | .vbs d e k x => dstOk E.N (some d) dst && (match op with | .buildSlice t n ps => rowsOk E.N 0 [.t x] ps.toList && n == 1 && decide (k ≤ 2 ^ 24) && elemOk P t e k | _ => false)
  | .vle d x r j base pt n agg => dstOk E.N (some d) dst && rootOk E r j base && pathOk E.N pt && (match op with | .load t y => opdOk E.N x y && isAggT P t == some agg && szOf P t == some n && (agg || n == 1) | _ => false)
  | .vlp d x r j base pt n agg => dstOk E.N (some d) dst && rootOk E r j base && pathOk E.N pt && (match op with | .load t y => opdOk E.N x y && isAggT P t == some agg && szOf P t == some n && (agg || n == 1) | _ => false)
  | .vlh d x r j base pt => dstOk E.N (some d) dst && rootOk E r j base && pathOk E.N pt && (match op with | .load t y => opdOk E.N x y && isAggT P t == some false && szOf P t == some 1 | _ => false)
  | .vse x r j base pt n y => dst.isNone && rootOk E r j base && pathOk E.N pt && (match op with | .store t x' y' => opdOk E.N x x' && opdOk E.N y y' && szOf P t == some n | _ => false)
  | .isn d ng x => dstOk E.N (some d) dst && (match op with | .binOp op' t x' (.const (.slice none 0 0)) _ => decide (op' = if ng then .neq else .eql) && isSliceT P t && opdOk E.N x x' | _ => false)

end Go.Hx
