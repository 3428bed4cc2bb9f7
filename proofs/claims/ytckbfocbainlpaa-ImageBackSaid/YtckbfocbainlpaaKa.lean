/- key.More, key.Of; the document's. Condition: what lies in memory can lie there. -/
import Derived.Test.YtckbfocbainlpaaIb
import Derived.Test.YtckbfocbainlpaaKp
import Derived.Laws.Bits64
namespace Go.Proofs.Ytckbfocbainlpaa
open Go.RowKit
set_option maxRecDepth 100000

theorem step_u64 (h : Nat) (hh : h < two64) (b : UInt8) : IntKind.u64.wrap (bits .xor .u64 (h : Int) (b.toNat : Int) * 1099511628211) = ((stepN h b : Nat) : Int) := by
  unfold two64 at hh
  rw [bits_xor_u64_nat h b.toNat hh (by have := b.toNat_lt; omega), IntKind.wrap_u64]
  unfold stepN two64
  rw [Int.natCast_emod, Int.natCast_mul]
  rfl
theorem wrapByte (b : UInt8) : IntKind.u64.wrap (b.toNat : Int) = (b.toNat : Int) := IntWalk.u64_in _ (by have := b.toNat_lt; omega)
theorem idxByte (s : List UInt8) (k : Nat) (h : k < s.length) : (⟨s.toArray⟩ : ByteArray)[k]'h = s[k] := rfl
theorem xor_u64 (h : Nat) (hh : h < two64) (b : UInt8) : bits .xor .u64 (h : Int) (b.toNat : Int) = ((h ^^^ b.toNat : Nat) : Int) := by
  unfold two64 at hh
  exact bits_xor_u64_nat h b.toNat hh (by have := b.toNat_lt; omega)

set_option maxHeartbeats 400000 in
theorem more_any (h : Nat) (hh : h < two64) (s : List UInt8) (hs : s.length ≤ 140737488355328) (w : World) :
    Calls Try.prog 45 #[.int .u64 h, .string ⟨s.toArray⟩] w fun e w' => e = .returned (.int .u64 ((moreN h s : Nat) : Int)) ∧ w = w' := by
  have HH := Lib.hid hh
  clear hh
  go_enter Try.func45, Try.ntmps45
  go_wp2_with fail
  go_loopg [0, 8] (s.length) (fun g v i wr => ∃ k : Nat, k + g = s.length ∧ i = .int .i64 k ∧ v = .int .u64 ((moreN h (s.take k) : Nat) : Int) ∧ wr = w)
  case atStart => exact ⟨0, by omega, rfl, rfl, rfl⟩
  case round =>
    obtain ⟨k, hk, rfl, rfl, rfl⟩ := hrel
    by_cases hlt : k < s.length
    · have HS := Lib.hid (moreN_snoc h s k hlt)
      have HL := Lib.hid (moreN_lt h HH.out (s.take k))
      have hkI : (k : Int) < (s.length : Int) := by omega
      have hgd := Lib.hid (show s.getD k 0 = s[k] by simp [List.getD_eq_getElem?_getD, hlt])
      generalize moreN h (s.take k) = x at *
      go_wp2_with fail
      go_roundg (gk - 1)
      case measure => omega
      case rel => exact ⟨k + 1, by omega, by go_num, by rw [HS.out, hgd.out, ← step_u64 x HL.out, wrapByte, idxByte], rfl⟩
    · obtain rfl : k = s.length := by omega
      rw [List.take_length]
      go_wp2_with fail
      go_ret
      exact ⟨rfl, rfl⟩

theorem mix_u64 (h : Nat) (hh : h < two64) : bits .xor .u64 (h : Int) ((h : Int) / 4294967296) = ((mixN h : Nat) : Int) := xorShift_u64 h 4294967296 hh

set_option maxHeartbeats 400000 in
theorem keyOf_any (s : List UInt8) (hs : s.length ≤ 140737488355328) (w : World) :
    Calls Try.prog 25 #[.string ⟨s.toArray⟩] w fun e w' => e = .returned (.int .u64 ((keyN s : Nat) : Int)) ∧ w = w' := by
  have HL := Lib.hid (moreN_lt firstN firstN_lt s)
  have HK := Lib.hid (show keyN s = mixN (moreN firstN s) from rfl)
  have hbeg : Calls Try.prog 46 #[] w fun e w' => e = .returned (.int .u64 ((firstN : Nat) : Int)) ∧ w = w' := by
    go_enter Try.func46, Try.ntmps46
    go_wp2_with fail
    go_ret
    exact ⟨rfl, rfl⟩
  have HBeg := Lib.hid hbeg
  clear hbeg
  go_enter Try.func25, Try.ntmps25
  go_wp2_with fail
  refine HBeg.out.mono ?_
  rintro e w' ⟨rfl, rfl⟩
  go_wp2_with fail
  refine (more_any firstN firstN_lt s hs _).mono ?_
  rintro e w' ⟨rfl, rfl⟩
  generalize moreN firstN s = x at *
  go_wp2_with fail
  go_ret
  refine ⟨?_, rfl⟩
  rw [HK.out, ← mix_u64 x HL.out]
  rfl

set_option maxHeartbeats 400000 in
theorem refMore_any (h : Nat) (hh : h < two64) (s : List UInt8) (hs : s.length ≤ 140737488355328) (w : World) :
    Calls Try.prog 49 #[.int .u64 h, .string ⟨s.toArray⟩] w fun e w' => e = .returned (.int .u64 ((moreN h s : Nat) : Int)) ∧ w = w' := by
  have HH := Lib.hid hh
  clear hh
  go_enter Try.func49, Try.ntmps49
  go_wp2_with fail
  go_loopg [0, 5] (s.length) (fun g v i wr => ∃ k : Nat, k + g = s.length ∧ i = .int .i64 k ∧ v = .int .u64 ((moreN h (s.take k) : Nat) : Int) ∧ wr = w)
  case atStart => exact ⟨0, by omega, rfl, rfl, rfl⟩
  case round =>
    obtain ⟨k, hk, rfl, rfl, rfl⟩ := hrel
    by_cases hlt : k < s.length
    · have HS := Lib.hid (moreN_snoc h s k hlt)
      have HL := Lib.hid (moreN_lt h HH.out (s.take k))
      have hkI : (k : Int) < (s.length : Int) := by omega
      have hgd := Lib.hid (show s.getD k 0 = s[k] by simp [List.getD_eq_getElem?_getD, hlt])
      generalize moreN h (s.take k) = x at *
      go_wp2_with fail
      go_roundg (gk - 1)
      case measure => omega
      case rel => exact ⟨k + 1, by omega, by go_num, by rw [HS.out, hgd.out, ← step_u64 x HL.out, wrapByte, idxByte], rfl⟩
    · obtain rfl : k = s.length := by omega
      rw [List.take_length]
      go_wp2_with fail
      go_ret
      exact ⟨rfl, rfl⟩

set_option maxHeartbeats 400000 in
theorem refOf_any (s : List UInt8) (hs : s.length ≤ 140737488355328) (w : World) :
    Calls Try.prog 28 #[.string ⟨s.toArray⟩] w fun e w' => e = .returned (.int .u64 ((keyN s : Nat) : Int)) ∧ w = w' := by
  have HL := Lib.hid (moreN_lt firstN firstN_lt s)
  have hL : moreN firstN s ≤ 18446744073709551615 := by have := HL.out; unfold two64 at this; omega
  have HK := Lib.hid (show keyN s = mixN (moreN firstN s) from rfl)
  go_enter Try.func28, Try.ntmps28
  go_wp2_with fail
  refine (refMore_any firstN firstN_lt s hs _).mono ?_
  rintro e w' ⟨rfl, rfl⟩
  generalize moreN firstN s = x at *
  go_wp2_with fail
  go_ret
  refine ⟨?_, rfl⟩
  rw [HK.out, ← mix_u64 x HL.out]
  rfl
end Go.Proofs.Ytckbfocbainlpaa
