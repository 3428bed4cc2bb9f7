/- One case, run. No condition. -/
import Derived.Test.YtiibijhldlillaaGreatHg
namespace Go.Proofs.Tryz
open Go.Proofs.YtiibijhldlillaaGreat.Eng
set_option maxRecDepth 1000000
theorem run1 : isTrue (run B2 1000000 (.fn 4 [.cls .u8 8 1] ⟨.leaf, 1000, []⟩)) = true := by kernel_rfl

open Go.Proofs.YtiibijhldlillaaGreat.Eng
set_option maxRecDepth 1000000
theorem run2 : isTrue (run B2 1000000 (.fn 4 [.cls .u8 8 2] ⟨.leaf, 1000, []⟩)) = true := by kernel_rfl
end Go.Proofs.Tryz
