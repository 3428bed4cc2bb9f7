/- obj.number, obj.truth; the document's. Conditions: a number that is not negative. -/
import Derived.Test.YtckbfocbainlpaaKb
import Derived.Test.YtckbfocbainlpaaBl
import Derived.Test.YtckbfocbainlpaaOp
namespace Go.Proofs.Ytckbfocbainlpaa
open Go.RowKit
set_option maxRecDepth 100000

theorem beN_take_succ (n m j : Nat) (hj : j < m) : (beN n m).take (j + 1) = (beN n m).take j ++ [UInt8.ofNat (n / 2 ^ (8 * (m - 1 - j)) % 256)] := by
  have hl : j < (beN n m).length := by rw [beN_length]; exact hj
  rw [List.take_succ_eq_append_getElem hl]
  have := beN_get n m j hj
  rw [List.getD_eq_getElem?_getD, List.getElem?_eq_getElem hl, Option.getD_some] at this
  rw [this, show (256 : Nat) = 2 ^ 8 from rfl, ← Nat.pow_mul]
theorem byteVals_mod (x : Nat) : byteVals [UInt8.ofNat (x % 256)] = #[.int .u8 ((x : Int) % 256)] := by
  simp only [byteVals, List.map_cons, List.map_nil]
  rw [show (UInt8.ofNat (x % 256)).toNat = x % 256 % 256 from UInt8.toNat_ofNat, Nat.mod_mod]
  simp

set_option maxHeartbeats 400000 in
theorem number_any (n m : Nat) (hn : n ≤ 9223372036854775807) (hm : m ≤ 8) (w : World) :
    Calls Try.prog 42 #[.int .i64 n, .int .i64 m] w fun e w' => e = .returned (.string ⟨(beN n m).toArray⟩) ∧ Below w.heap.size w w' := by
  go_enter Try.func42, Try.ntmps42
  go_wp2_with fail
  go_loopg [5, 6] (m + 1) (fun g v i wr => ∃ j : Nat, j + g = m + 1 ∧ j ≤ m ∧ i = .int .i64 ((m : Int) - 1 - j) ∧ wr.ownsRow w.heap.size 5 1 v j (byteVals ((beN n m).take j)).toList ∧ Below w.heap.size w wr)
  case atStart => exact ⟨0, by omega, by omega, by simp, World.ownsRow_nil .., Below.refl _ _⟩
  case round =>
    obtain ⟨j, hk, h8, rfl, hown, hb⟩ := hrel
    have HO := Lib.hid hown
    clear hown
    have hws : w.heap.size ≤ wr.heap.size := hb.size
    by_cases hlt : j < m
    · have HS := Lib.hid (beN_take_succ n m j hlt)
      have HV := Lib.hid (byteVals_mod (n / 2 ^ (8 * (m - 1 - j))))
      obtain ⟨q, rfl⟩ : ∃ q : Nat, m = j + 1 + q := ⟨m - (j + 1), by omega⟩
      rw [show ((j + 1 + q : Nat) : Int) - 1 - j = (q : Int) by omega]
      rw [show j + 1 + q - 1 - j = q by omega] at HS HV
      have hq : (q : Int) ≤ 7 := by omega
      have HOd := Lib.hid (own_later HO.out (alloc_below wr (.cells #[.int .u8 ((n / 2 ^ (8 * q) : Nat) % 256)] 5)))
      go_wp2_with (at_builtin; refine wpList_app etBytes rfl _ _ rfl w.heap.size _ _ _ rfl HOd.out _ 1 _ rfl (src_new etBytes wr _ _ 1 1 rfl (by simp [Value.oneCell'])) (by omega) (by unfold maxLen; omega) (by simp; omega) ?_; intro v9 w9 hA9)
      have H9 := Lib.hid (hA9.below (hb.alloc hws _) (by simp; omega) HOd.out (Nat.le_refl _))
      have O9 := Lib.hid hA9.own
      clear hA9 HOd
      go_wp2_with fail
      go_roundg (gk - 1)
      case measure => omega
      case rel =>
        refine ⟨j + 1, by omega, by omega, by go_num, ?_, H9.out⟩
        rw [HS.out, byteVals_append, HV.out]
        exact O9.out
    · obtain rfl : j = m := by omega
      rw [List.take_of_length_le (Nat.le_of_eq (beN_length n j))] at HO
      have hconv := conv_own HO.out
      obtain ⟨A9, c9, rfl⟩ := own_slice' HO.out
      have hneg : (j : Int) - 1 - j = -1 := by omega
      rw [hneg]
      go_wp2_with fail
      go_ret
      exact ⟨rfl, hb⟩

set_option maxHeartbeats 400000 in
theorem numberW_any (n m : Nat) (hn : n ≤ 65535) (hm : m ≤ 8) (w : World) :
    Calls Try.prog 44 #[.int .u16 n, .int .i64 m] w fun e w' => e = .returned (.string ⟨(beN n m).toArray⟩) ∧ Below w.heap.size w w' := by
  go_enter Try.func44, Try.ntmps44
  go_wp2_with fail
  go_loopg [5, 6] (m + 1) (fun g v i wr => ∃ j : Nat, j + g = m + 1 ∧ j ≤ m ∧ i = .int .i64 ((m : Int) - 1 - j) ∧ wr.ownsRow w.heap.size 5 1 v j (byteVals ((beN n m).take j)).toList ∧ Below w.heap.size w wr)
  case atStart => exact ⟨0, by omega, by omega, by simp, World.ownsRow_nil .., Below.refl _ _⟩
  case round =>
    obtain ⟨j, hk, h8, rfl, hown, hb⟩ := hrel
    have HO := Lib.hid hown
    clear hown
    have hws : w.heap.size ≤ wr.heap.size := hb.size
    by_cases hlt : j < m
    · have HS := Lib.hid (beN_take_succ n m j hlt)
      have HV := Lib.hid (byteVals_mod (n / 2 ^ (8 * (m - 1 - j))))
      obtain ⟨q, rfl⟩ : ∃ q : Nat, m = j + 1 + q := ⟨m - (j + 1), by omega⟩
      rw [show ((j + 1 + q : Nat) : Int) - 1 - j = (q : Int) by omega]
      rw [show j + 1 + q - 1 - j = q by omega] at HS HV
      have hq : (q : Int) ≤ 7 := by omega
      have HOd := Lib.hid (own_later HO.out (alloc_below wr (.cells #[.int .u8 ((n / 2 ^ (8 * q) : Nat) % 256)] 5)))
      go_wp2_with (at_builtin; refine wpList_app etBytes rfl _ _ rfl w.heap.size _ _ _ rfl HOd.out _ 1 _ rfl (src_new etBytes wr _ _ 1 1 rfl (by simp [Value.oneCell'])) (by omega) (by unfold maxLen; omega) (by simp; omega) ?_; intro v9 w9 hA9)
      have H9 := Lib.hid (hA9.below (hb.alloc hws _) (by simp; omega) HOd.out (Nat.le_refl _))
      have O9 := Lib.hid hA9.own
      clear hA9 HOd
      go_wp2_with fail
      go_roundg (gk - 1)
      case measure => omega
      case rel =>
        refine ⟨j + 1, by omega, by omega, by go_num, ?_, H9.out⟩
        rw [HS.out, byteVals_append, HV.out]
        exact O9.out
    · obtain rfl : j = m := by omega
      rw [List.take_of_length_le (Nat.le_of_eq (beN_length n j))] at HO
      have hconv := conv_own HO.out
      obtain ⟨A9, c9, rfl⟩ := own_slice' HO.out
      have hneg : (j : Int) - 1 - j = -1 := by omega
      rw [hneg]
      go_wp2_with fail
      go_ret
      exact ⟨rfl, hb⟩

theorem truth_any (b : Bool) (w : World) : Calls Try.prog 43 #[.bool b] w fun e w' => e = .returned (.string ⟨(truthL b).toArray⟩) ∧ Below w.heap.size w w' := by
  cases b
  · go_enter Try.func43, Try.ntmps43
    go_wp2_with fail
    go_ret
    exact ⟨rfl, Below.refl _ _⟩
  · go_enter Try.func43, Try.ntmps43
    go_wp2_with fail
    go_ret
    exact ⟨rfl, Below.refl _ _⟩
end Go.Proofs.Ytckbfocbainlpaa
