/- What the run tells of scope.New, with the numbers from 40000 on. No condition. -/
import Derived.Test.YtiibijhldlillaaGreatHa
namespace Go.Proofs.Tryz
open Go.Proofs.YtiibijhldlillaaGreat.Eng
set_option maxRecDepth 100000
theorem facts40 : NewFacts 40000 where
  big := by decide
  a0 := by kernel_rfl
  a1 := by kernel_rfl
  a2 := by kernel_rfl
  a2m := by kernel_rfl
  a3 := fun i it x y L hi hx => by
    rcases lt6 hi with rfl | rfl | rfl | rfl | rfl | rfl <;> rcases hx with rfl | rfl <;> kernel_rfl
  a4 := fun i it p L hi hp => by
    rcases lt5 hi with rfl | rfl | rfl | rfl | rfl <;> rcases in5 hp with rfl | rfl | rfl | rfl | rfl <;> kernel_rfl
  a5 := fun i it p L hi hp => by
    rcases lt5 hi with rfl | rfl | rfl | rfl | rfl <;> rcases in5 hp with rfl | rfl | rfl | rfl | rfl <;> kernel_rfl
  a6 := fun it => by kernel_rfl

open Go.Proofs.YtiibijhldlillaaGreat.Eng
set_option maxRecDepth 100000
theorem facts60 : NewFacts 60000 where
  big := by decide
  a0 := by kernel_rfl
  a1 := by kernel_rfl
  a2 := by kernel_rfl
  a2m := by kernel_rfl
  a3 := fun i it x y L hi hx => by
    rcases lt6 hi with rfl | rfl | rfl | rfl | rfl | rfl <;> rcases hx with rfl | rfl <;> kernel_rfl
  a4 := fun i it p L hi hp => by
    rcases lt5 hi with rfl | rfl | rfl | rfl | rfl <;> rcases in5 hp with rfl | rfl | rfl | rfl | rfl <;> kernel_rfl
  a5 := fun i it p L hi hp => by
    rcases lt5 hi with rfl | rfl | rfl | rfl | rfl <;> rcases in5 hp with rfl | rfl | rfl | rfl | rfl <;> kernel_rfl
  a6 := fun it => by kernel_rfl
end Go.Proofs.Tryz
