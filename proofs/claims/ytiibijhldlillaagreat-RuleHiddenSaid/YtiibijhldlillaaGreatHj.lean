/- One case, run. No condition. -/
import Derived.Test.YtiibijhldlillaaGreatHg
namespace Go.Proofs.Tryz
open Go.Proofs.YtiibijhldlillaaGreat.Eng
set_option maxRecDepth 1000000
theorem run3 : isTrue (run B2 1000000 (.fn 4 [.cls .u8 8 3] ⟨.leaf, 1000, []⟩)) = true := by kernel_rfl

open Go.Proofs.YtiibijhldlillaaGreat.Eng
set_option maxRecDepth 1000000
theorem run4 : isTrue (run B2 1000000 (.fn 4 [.cls .u8 8 4] ⟨.leaf, 1000, []⟩)) = true := by kernel_rfl
end Go.Proofs.Tryz
