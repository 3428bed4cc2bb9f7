/- The closed facts of RuleHidden's row, one by one. No condition. -/
import Derived.Test.YtiibijhldlillaaGreatRy
import Derived.Test.YtiibijhldlillaaGreatHt
namespace Go.Proofs.YtiibijhldlillaaGreat
open Go.ChangeShapes
set_option maxRecDepth 100000
theorem and_mk {a b : Bool} (h1 : a = true) (h2 : b = true) : (a && b) = true := by rw [h1, h2]; rfl
set_option maxHeartbeats 8000000 in
theorem hidden_closed : joinedFacts Tryz.prog 4 Tryz.f4 Rows.ruleHiddenSpec Rows.ruleHiddenRow = true := by
  unfold joinedFacts
  repeat' (with_reducible apply and_mk)
  all_goals first | (with_reducible exact hidden_ka) | (with_reducible exact hidden_kb) | (with_reducible exact hidden_kc) | (with_reducible exact hidden_kd) | skip
  all_goals as_aux_lemma => kernel_rfl
end Go.Proofs.YtiibijhldlillaaGreat
