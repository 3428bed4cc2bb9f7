/- code.Decode at whatever place; code.All. -/
import Derived.Test.YtgcmenjpcgdikaaDoorCn
namespace Go.Proofs.YtgcmenjpcgdikaaDoor
open Go.RowKit
set_option maxRecDepth 100000

theorem decode_any (s : List UInt8) (hs : s.length ≤ 4294967296) (at_ : Int) (w : World) (ht : Tab w) :
    Calls Tryd.prog 9 #[.string ⟨s.toArray⟩, .int .i64 at_] w (DecEnd w (decodeL s at_)) := by
  unfold decodeL
  by_cases h : at_ < 0 ∨ (s.length : Int) ≤ at_
  · rw [if_pos h]; exact dec_out s hs at_ h w
  · rw [if_neg h]
    obtain ⟨k, rfl⟩ := Int.eq_ofNat_of_zero_le (show 0 ≤ at_ by omega)
    rw [Int.toNat_natCast]
    by_cases hT : thereB (s.getD k 0).toNat = false
    · rw [if_pos hT]; exact dec_none s hs k (by omega) _ rfl hT w ht
    · rw [if_neg hT]; exact dec_main s hs k (by omega) _ rfl (by simpa using hT) w ht
end Go.Proofs.YtgcmenjpcgdikaaDoor
