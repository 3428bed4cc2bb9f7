/- The closed facts of RuleHidden's row that go over all that it leads to. No condition. -/
import Derived.Test.YtiibijhldlillaaGreatHs
import Derived.Test.YtiibijhldlillaaGreatRy
namespace Go.Proofs.YtiibijhldlillaaGreat
set_option maxRecDepth 100000
theorem hidden_ka : (Rows.ruleHiddenRow.inPlace == Tryz.prog.inPlace 4) = true := by
  unfold Program.inPlace
  rw [Tryz.closure4]
  kernel_rfl
theorem unf4 : Tryz.prog.unfollowed 4 = true := by
  unfold Program.unfollowed
  rw [Tryz.closure4]
  kernel_rfl
theorem hidden_kb : (Rows.ruleHiddenRow.unfollowed == Tryz.prog.unfollowed 4) = true := by
  rw [unf4]
  rfl
theorem hidden_kc : (Rows.ruleHiddenRow.recurses == Tryz.prog.recurses 4) = true := by
  unfold Program.recurses
  rw [unf4]
  rfl
theorem hidden_kd : (Rows.ruleHiddenRow.named == Tryz.prog.varsNamed 4) = true := by
  unfold Program.varsNamed
  rw [Tryz.closure4]
  kernel_rfl
end Go.Proofs.YtiibijhldlillaaGreat
