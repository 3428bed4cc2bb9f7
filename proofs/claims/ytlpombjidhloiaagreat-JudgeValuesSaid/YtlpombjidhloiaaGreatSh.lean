/- A fact under a short name. Condition: what each theorem says. -/
import Derived.Below
namespace Go.Proofs
theorem aa{p:Prop}(h:p):RowKit.Hid p:=h
end Go.Proofs
