/- The document's answer for layer 16: There, Form, kind, may, number. No condition. -/
import Derived.Test.YtgcmenjpcgdikaaDoorCj
import Derived.Test.YtgcmenjpcgdikaaDoorPk
namespace Go.Proofs.YtgcmenjpcgdikaaDoor
open Go.RowKit
set_option maxRecDepth 100000

set_option maxHeartbeats 400000 in
theorem refThere (n : Nat) (w : World) : Calls Tryd.prog 29 #[.int .u8 n] w fun e w' => e = .returned (.bool (thereB n)) ∧ w = w' := by
  unfold thereB
  by_cases h1 : 1 ≤ n
  · by_cases h2 : n ≤ 31
    · have d1 : decide (1 ≤ n) = true := by simpa using h1
      have d2 : decide (n ≤ 31) = true := by simpa using h2
      go_enter Tryd.func29, Tryd.ntmps29
      go_wp2
      go_ret
      simp
    · by_cases h3 : 40 ≤ n
      · by_cases h4 : n ≤ 81
        all_goals
          go_enter Tryd.func29, Tryd.ntmps29
          go_wp2
          go_ret
          first | (simp [h1, h2, h3, h4]; done) | (simp [h1, h2, h3, h4]; omega)
      · go_enter Tryd.func29, Tryd.ntmps29
        go_wp2
        go_ret
        first | (simp [h1, h2, h3]; done) | (simp [h1, h2, h3]; omega)
  · have h0 : n = 0 := by omega
    subst h0
    go_enter Tryd.func29, Tryd.ntmps29
    go_wp2
    go_ret
    simp

set_option maxHeartbeats 1000000 in
theorem refForm (n : Nat) (hn : n < 256) (w : World) :
    Calls Tryd.prog 22 #[.int .u8 n] w fun e w' => e = .returned (.tuple #[.string ⟨(formL n).toArray⟩, .bool (thereB n)]) ∧ w = w' := by
  go_enter Tryd.func22, Tryd.ntmps22
  go_wp2_with fail
  all_goals first
    | (rename_i h
       have h' := congrArg Int.toNat (eq_of_beq h)
       simp only [Int.toNat_natCast, Int.reduceToNat] at h'
       subst h'
       go_ret2
       exact ⟨rfl, rfl⟩)
    | skip
  have hL := Lib.hid (formL_nil n (by assumption) (by assumption) (by assumption) (by assumption) (by assumption) (by assumption) (by assumption) (by assumption) (by assumption) (by assumption) (by assumption) (by assumption) (by assumption) (by assumption) (by assumption) (by assumption) (by assumption) (by assumption) (by assumption) (by assumption) (by assumption) (by assumption) (by assumption) (by assumption) (by assumption) (by assumption))
  refine (refThere n _).mono ?_
  rintro e w' ⟨rfl, rfl⟩
  go_wp2_with fail
  go_ret2
  exact ⟨by rw [hL.out]; simp, rfl⟩

set_option maxHeartbeats 400000 in
theorem refKind (n : Nat) (hn : n < 256) (k : Nat) (hk : k ≤ 9223372036854775807) (w : World) :
    Calls Tryd.prog 30 #[.int .u8 n, .int .i64 k] w fun e w' => e = .returned (.int .u8 ((kindL n k).toNat : Int)) ∧ w = w' := by
  have hf := form_short n
  by_cases h1 : k < (formL n).length
  · have HK := Lib.hid (show ((⟨(formL n).toArray⟩ : ByteArray)[k]'(by simpa [ByteArray.size] using h1)).toNat = (kindL n k).toNat by
      unfold kindL; rw [if_pos h1, List.getD_eq_getElem?_getD, List.getElem?_eq_getElem h1]; rfl)
    go_enter Tryd.func30, Tryd.ntmps30
    go_wp2_with fail
    refine (refForm n hn _).mono ?_
    rintro e w' ⟨rfl, rfl⟩
    go_wp2_with fail
    go_ret
    exact ⟨ret1 (vint (by rw [← HK.out])), rfl⟩
  · by_cases h2 : (k - (formL n).length) % 3 = 2
    · have HK := Lib.hid (show kindL n k = 74 by unfold kindL; rw [if_neg h1, if_pos h2])
      have d2 : (((k : Int) - ((formL n).length : Int)) % 3 == 2) = true := by simp; omega
      clear h2
      go_enter Tryd.func30, Tryd.ntmps30
      go_wp2_with fail
      refine (refForm n hn _).mono ?_
      rintro e w' ⟨rfl, rfl⟩
      go_wp2_with fail
      go_ret
      exact ⟨by rw [HK.out]; rfl, rfl⟩
    · have HK := Lib.hid (show kindL n k = 87 by unfold kindL; rw [if_neg h1, if_neg h2])
      have d2 : (((k : Int) - ((formL n).length : Int)) % 3 == 2) = false := by simp; omega
      clear h2
      go_enter Tryd.func30, Tryd.ntmps30
      go_wp2_with fail
      refine (refForm n hn _).mono ?_
      rintro e w' ⟨rfl, rfl⟩
      go_wp2_with fail
      go_ret
      exact ⟨by rw [HK.out]; rfl, rfl⟩

set_option maxHeartbeats 400000 in
theorem refMay (c : UInt8) (hc : letter c) (x : Int) (w : World) :
    Calls Tryd.prog 44 #[.int .u8 (c.toNat : Int), .int .i64 x] w fun e w' => e = .returned (.bool (inK c x)) ∧ w = w' := by
  rcases hc with rfl | rfl | rfl
  · by_cases h1 : 0 ≤ x
    · by_cases h2 : x ≤ 255
      all_goals
        go_enter Tryd.func44, Tryd.ntmps44
        go_wp2_with fail
        go_ret
        first | (simp [inK, lowK, highK, h1, h2]; done) | (simp [inK, lowK, highK]; omega)
    · go_enter Tryd.func44, Tryd.ntmps44
      go_wp2_with fail
      go_ret
      first | (simp [inK, lowK, highK, h1]; done) | (simp [inK, lowK, highK]; omega)
  · by_cases h1 : 0 ≤ x
    · by_cases h2 : x ≤ 65535
      all_goals
        go_enter Tryd.func44, Tryd.ntmps44
        go_wp2_with fail
        go_ret
        first | (simp [inK, lowK, highK, h1, h2]; done) | (simp [inK, lowK, highK]; omega)
    · go_enter Tryd.func44, Tryd.ntmps44
      go_wp2_with fail
      go_ret
      first | (simp [inK, lowK, highK, h1]; done) | (simp [inK, lowK, highK]; omega)
  · by_cases h1 : -32768 ≤ x
    · by_cases h2 : x ≤ 32767
      all_goals
        go_enter Tryd.func44, Tryd.ntmps44
        go_wp2_with fail
        go_ret
        first | (simp [inK, lowK, highK, h1, h2]; done) | (simp [inK, lowK, highK]; omega)
    · go_enter Tryd.func44, Tryd.ntmps44
      go_wp2_with fail
      go_ret
      first | (simp [inK, lowK, highK, h1]; done) | (simp [inK, lowK, highK]; omega)
end Go.Proofs.YtgcmenjpcgdikaaDoor
