/- The document's number: an instruction's number as bytes, in new memory. Condition: the number may be there. -/
import Derived.Test.YtgcmenjpcgdikaaDoorRa
import Derived.Test.YtgcmenjpcgdikaaDoorBy
namespace Go.Proofs.YtgcmenjpcgdikaaDoor
open Go.RowKit
set_option maxRecDepth 100000

set_option maxHeartbeats 400000 in
theorem refNumber (c : UInt8) (hc : letter c) (x : Int) (hx : inK c x = true) (w : World) :
    Calls Tryd.prog 31 #[.int .u8 (c.toNat : Int), .int .i64 x] w fun e w' =>
      e = .returned (.slice (some ⟨w.heap.size, 0, none⟩) (encArg c x).length (encArg c x).length) ∧ w' = w.alloc (.cells (byteVals (encArg c x)) 5) := by
  unfold inK lowK highK at hx
  simp only [Bool.and_eq_true, decide_eq_true_eq] at hx
  rcases hc with rfl | rfl | rfl
  · simp at hx
    obtain ⟨h1, h2⟩ := hx
    have e1 := ofNat_int (x % 256) (by omega) (by omega)
    have E : byteVals (encArg 66 x) = #[.int .u8 x] := by
      have : encArg 66 x = [UInt8.ofNat (x % 256).toNat] := rfl
      rw [this]
      simp only [byteVals, List.map_cons, List.map_nil, e1]
      rw [show x % 256 = x by omega]
    have E2 : (encArg 66 x).length = 1 := rfl
    rw [E, E2]
    clear E E2 e1
    go_enter Tryd.func31, Tryd.ntmps31
    go_wp2_with fail
    go_ret
    exact ⟨rfl, rfl⟩
  · simp at hx
    obtain ⟨h1, h2⟩ := hx
    have e1 := ofNat_int (x % 256) (by omega) (by omega)
    have e2 := ofNat_int (x / 256 % 256) (by omega) (by omega)
    have E : byteVals (encArg 87 x) = #[.int .u8 (x / 256 % 256), .int .u8 (x % 256)] := by
      simp only [encArg, byteVals, if_neg (show ¬ (87 : UInt8) = 66 by decide), List.map_cons, List.map_nil, e1, e2]
    have E2 : (encArg 87 x).length = 2 := rfl
    rw [E, E2]
    clear E E2 e1 e2
    have g0 : decide (x < 0) = false := by simp; omega
    go_enter Tryd.func31, Tryd.ntmps31
    go_wp2_with fail
    go_ret
    exact ⟨rfl, by rw [show x / 256 % 256 = x / 256 by omega]⟩
  · simp at hx
    obtain ⟨h1, h2⟩ := hx
    have e1 := ofNat_int (x % 256) (by omega) (by omega)
    have e2 := ofNat_int (x / 256 % 256) (by omega) (by omega)
    have E : byteVals (encArg 74 x) = #[.int .u8 (x / 256 % 256), .int .u8 (x % 256)] := by
      simp only [encArg, byteVals, if_neg (show ¬ (74 : UInt8) = 66 by decide), List.map_cons, List.map_nil, e1, e2]
    have E2 : (encArg 74 x).length = 2 := rfl
    rw [E, E2]
    clear E E2 e1 e2
    by_cases h0 : x < 0
    · have g0 : decide (x < 0) = true := by simp; omega
      go_enter Tryd.func31, Tryd.ntmps31
      go_wp2_with fail
      go_ret
      exact ⟨rfl, by rw [show x / 256 % 256 = (x + 65536) / 256 by omega, show x % 256 = (x + 65536) % 256 by omega]⟩
    · have g0 : decide (x < 0) = false := by simp; omega
      go_enter Tryd.func31, Tryd.ntmps31
      go_wp2_with fail
      go_ret
      exact ⟨rfl, by rw [show x / 256 % 256 = x / 256 by omega]⟩
end Go.Proofs.YtgcmenjpcgdikaaDoor
