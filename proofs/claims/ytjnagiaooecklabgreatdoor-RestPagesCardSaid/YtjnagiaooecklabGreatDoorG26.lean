/-
 THE ABSTRACT LAYER: functions that defer one closure, which recovers a panic and writes the boxes that it has captured. Generic over the program. No condition.
-/
import Derived.Test.YtjnagiaooecklabGreatDoorG11
import Derived.Recover
set_option linter.all false
namespace Go.Hx
open Go.RowKit
variable [Glob]
section
variable {P:Program} {E:Env} {S:Start} {m:Mem} {β:Bx} {ow:Ow} {F:List Ct} {a:Act} {w:World}
structure CapB where
 i:Nat
 j:Nat
 base:Nat
 cells:List PV
end
def cdL:Code→Code
 |.seq a _=>a
 |c=>c
def cdR:Code→Code
 |.seq _ b=>b
 |c=>c
end Go.Hx
