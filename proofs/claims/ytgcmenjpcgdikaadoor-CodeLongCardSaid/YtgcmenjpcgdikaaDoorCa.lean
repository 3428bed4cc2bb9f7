/- The walk of number.bytes. No condition. -/
import Derived.Test.YtgcmenjpcgdikaaDoorLw
import Derived.Deep.QuietTactic
import Derived.BigQuiet
import Derived.Lib.Hide
namespace Go.Proofs.YtgcmenjpcgdikaaDoor
open Go.RowKit
set_option maxRecDepth 100000

set_option maxHeartbeats 400000 in
theorem bytes1 (lo hi n : Int) (w : World) :
    Calls Tryd.prog 41 #[.agg #[.int .i64 lo, .int .i64 hi, .int .i64 1], .int .i64 n] w fun e w' =>
      e = .returned (.string ⟨#[UInt8.ofNat (n % 256).toNat]⟩) ∧ Below w.heap.size w w' := by
  go_enter Tryd.func41, Tryd.ntmps41
  go_wp2
  go_ret
  exact ⟨rfl, ((Below.refl _ _).alloc (Nat.le_refl _) _).alloc (by simp) _⟩

set_option maxHeartbeats 400000 in
theorem bytes2 (lo hi n : Int) (w : World) :
    Calls Tryd.prog 41 #[.agg #[.int .i64 lo, .int .i64 hi, .int .i64 2], .int .i64 n] w fun e w' =>
      e = .returned (.string ⟨#[UInt8.ofNat (n / 256 % 256).toNat, UInt8.ofNat (n % 256).toNat]⟩) ∧ Below w.heap.size w w' := by
  go_enter Tryd.func41, Tryd.ntmps41
  go_wp2
  go_ret
  exact ⟨rfl, ((Below.refl _ _).alloc (Nat.le_refl _) _).alloc (by simp) _⟩
end Go.Proofs.YtgcmenjpcgdikaaDoor
