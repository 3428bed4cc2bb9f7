/- Plain: which modules may be in a file, what their bytes are. No condition. -/
import Derived.Test.YtckbfocbainlpaaIp
import Derived.Test.YtckbfocbainlpaaKp
namespace Go.Proofs.Ytckbfocbainlpaa

def noImp (m : ModL) : ModL := { m with imports := [] }
def modOkB (m : ModL) : Bool := !decide (255 < m.imports.length) && m.imports.all (withinB · 0 63) && checkB [noImp m] []
theorem modOkB_long {m : ModL} (h : 255 < m.imports.length) : modOkB m = false := by unfold modOkB; rw [decide_eq_true h]; rfl
theorem modOkB_imp {m : ModL} (h : m.imports.all (withinB · 0 63) = false) : modOkB m = false := by unfold modOkB; rw [h]; simp
theorem modOkB_rest {m : ModL} (h1 : ¬ 255 < m.imports.length) (h2 : m.imports.all (withinB · 0 63) = true) : modOkB m = checkB [noImp m] [] := by unfold modOkB; rw [decide_eq_false h1, h2]; rfl
def truthL (b : Bool) : List UInt8 := if b then [1] else [0]
end Go.Proofs.Ytckbfocbainlpaa
