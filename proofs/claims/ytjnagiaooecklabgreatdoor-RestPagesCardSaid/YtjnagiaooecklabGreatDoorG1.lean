/-
 Propositions that a tactic proves where they stand. Plain Lean. No condition.
-/
import Derived.RowKit
set_option linter.all false
namespace Go.Hx
theorem yO {p:Prop} (h:p:=by omega):p:=h
theorem yR {p:Prop} (h:p:=by repeat' constructor):p:=h
theorem yF {p:Prop} (h:p:=by rfl):p:=h
end Go.Hx
