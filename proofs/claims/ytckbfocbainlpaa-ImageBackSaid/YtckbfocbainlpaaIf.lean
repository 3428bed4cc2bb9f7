/- The document's Check. Condition: what lies in memory can lie there. -/
import Derived.Test.YtckbfocbainlpaaIe
import Derived.Deep.QuietTactic
import Derived.BigQuiet
namespace Go.Proofs.Ytckbfocbainlpaa
open Go.RowKit
set_option maxRecDepth 100000

theorem take_mem_succ {α : Type} (l : List α) (k : Nat) (d x : α) (hk : k < l.length) : x ∈ l.take (k + 1) ↔ x ∈ l.take k ∨ x = l.getD k d := by
  
  have e : l.getD k d = l[k] := by simp [List.getD_eq_getElem?_getD, hk]
  rw [List.take_succ_eq_append_getElem hk, List.mem_append, List.mem_singleton, e]

set_option maxHeartbeats 1000000 in
theorem refCheck_any (A2 A3 : Option Addr) (c2 c3 : Nat) (ms : List ModL) (o : List Int) (hms : ms.length ≤ 140737488355328) (ho : o.length ≤ 140737488355328) (w : World) (hM : Mods w A2 ms) (hO : Ints w A3 o) :
    Calls Try.prog 31 #[.agg #[.slice A2 ms.length c2, .slice A3 o.length c3]] w (CheckEnd w (checkB ms o)) := by
  have HM := Lib.hid hM
  have HO := Lib.hid hO
  have HAL := Lib.hid (alloc_below w (.cells #[.slice A2 ms.length c2, .slice A3 o.length c3] 26))
  clear hM hO
  by_cases hl1 : ms.length < 1
  · have HX := Lib.hid (checkB_len (ms := ms) (o := o) (by simp [withinB]; omega))
    go_enter Try.func31, Try.ntmps31
    go_wp2_with fail
    go_ret2
    exact checkEnd_of (errMod_false HX.out) HAL.out
  by_cases hl2 : 64 < ms.length
  · have HX := Lib.hid (checkB_len (ms := ms) (o := o) (by simp [withinB]; omega))
    go_enter Try.func31, Try.ntmps31
    go_wp2_with fail
    go_ret2
    exact checkEnd_of (errMod_false HX.out) HAL.out
  have H1 := Lib.hid (show withinB ms.length 1 64 = true by simp [withinB]; omega)
  go_enter Try.func31, Try.ntmps31
  go_wp2_with fail
  go_loopg [5] (ms.length) (fun g i wr => ∃ k : Nat, k + g = ms.length ∧ i = .int .i64 k ∧ (ms.take k).all (modB · ms.length) = true ∧ Below (w.heap.size + 1) (w.alloc (.cells #[.slice A2 ms.length c2, .slice A3 o.length c3] 26)) wr)
  case atStart => exact ⟨0, by omega, rfl, rfl, Below.refl _ _⟩
  case round =>
    obtain ⟨k, hk, rfl, hall, hb⟩ := hrel
    have HA := Lib.hid hall
    obtain ⟨b0, b1, hbw, hsz⟩ := box2' hb
    have HB := Lib.hid hb
    clear hall hb
    by_cases hlt : k < ms.length
    · obtain ⟨b, off, hA2, hbl, hP⟩ := Each.at_ (HM.out.later hbw (Nat.le_refl _)) hlt
      have HS := Lib.hid (all_take_succ (modB · ms.length) ms k default hlt)
      have HF := Lib.hid (all_false_at (modB · ms.length) ms k default hlt)
      generalize ms.getD k default = m at *
      obtain ⟨s, hI, c0, c1, c2', c3', c4⟩ := hP
      have HI := Lib.hid hI
      have hcl := hI.code_le
      clear hI
      subst hA2
      have hkI : (k : Int) < (ms.length : Int) := by omega
      go_wp2_with fail
      refine (refModule_any s m ms.length (by omega) (by omega) _ HI.out).mono ?_
      rintro e w5 ⟨rfl, hb6⟩
      have hb7 := HB.out.trans (hb6.mono (by omega))
      clear c0 c1 c2' c3' c4 b0 b1
      cases hq : modB m ms.length
      · go_wp2_with fail
        go_ret2
        exact checkEnd_of (errMod_false (checkB_mod (HF.out hq))) (hbw.trans (hb6.mono (by omega)))
      · go_wp2_with fail
        go_roundg (gk - 1)
        case measure => omega
        case rel => exact ⟨k + 1, by omega, by go_num, by rw [HS.out, HA.out, hq]; rfl, hb7⟩
    · obtain rfl : k = ms.length := by omega
      have HA1 := Lib.hid (show ms.all (modB · ms.length) = true by have := HA.out; rwa [List.take_length] at this)
      clear HA b0 b1
      rename World => wA
      go_wp2_with fail
      go_loopg [6] (o.length) (fun g i wr => ∃ k : Nat, k + g = o.length ∧ i = .int .i64 k ∧ (o.take k).all (withinB · 0 (ms.length - 1)) = true ∧ (o.take k).Nodup ∧ Below (w.heap.size + 1) (w.alloc (.cells #[.slice A2 ms.length c2, .slice A3 o.length c3] 26)) wr)
      case atStart => exact ⟨0, by omega, rfl, rfl, List.nodup_nil, HB.out⟩
      case round =>
        obtain ⟨k, hk, rfl, hall, hnd, hb⟩ := hrel
        have HA := Lib.hid hall
        have HN := Lib.hid hnd
        clear hall hnd hbw hsz HB
        obtain ⟨b0, b1, hbw, hsz⟩ := box2' hb
        have HB := Lib.hid hb
        clear hb
        by_cases hlt : k < o.length
        · have HOw := Lib.hid (HO.out.later hbw (Nat.le_refl _))
          obtain ⟨b, off, hA3, hbl, c0⟩ := Each.at_ HOw.out hlt
          have HS := Lib.hid (all_take_succ (withinB · 0 (ms.length - 1)) o k 0 hlt)
          have HF := Lib.hid (all_false_at (withinB · 0 (ms.length - 1)) o k 0 hlt)
          have HD := Lib.hid (not_nodup_at o k 0 hlt)
          have HNN := Lib.hid (nodup_take_succ o k 0 hlt)
          generalize o.getD k 0 = x at *
          subst hA3
          have hkI : (k : Int) < (o.length : Int) := by omega
          rw [Nat.mul_one] at c0
          cases hq : withinB x 0 (ms.length - 1)
          · go_wp2_with (first | (go_at_call 53; refine (refIn_any _ _ _ _).mono ?_; rintro e w' ⟨rfl, rfl⟩))
            go_ret2
            exact checkEnd_of (errMod_false (checkB_in (HF.out hq))) hbw
          · go_wp2_with (first | (go_at_call 53; refine (refIn_any _ _ _ _).mono ?_; rintro e w' ⟨rfl, rfl⟩))
            rename World => wB
            go_loopg [7] k (fun g i wr => ∃ j : Nat, j + g = k ∧ i = .int .i64 j ∧ x ∉ o.take j ∧ ∃ q, wr = wB.drewN q)
            case atStart => exact ⟨0, by omega, rfl, by simp, 0, rfl⟩
            case round =>
              obtain ⟨j, hj, rfl, hx, q, rfl⟩ := hrel
              have HX := Lib.hid hx
              clear hx
              by_cases hjk : j < k
              · obtain ⟨b', off', hA', _, c9⟩ := Each.at_ HOw.out (j := j) (by omega)
                obtain ⟨rfl, rfl⟩ : b = b' ∧ off = off' := by injection hA' with hA'; injection hA' with h1 h2; exact ⟨h1, h2⟩
                clear hA'
                have HMS := Lib.hid (take_mem_succ o j 0 x (by omega))
                have HMK := Lib.hid (show o.getD j 0 ∈ o.take k by
                  rw [List.getD_eq_getElem?_getD, List.getElem?_eq_getElem (by omega)]
                  simp only [Option.getD_some]
                  exact List.mem_take_iff_getElem.2 ⟨j, by omega, rfl⟩)
                generalize o.getD j 0 = y at *
                rw [Nat.mul_one] at c9
                have hjI : (j : Int) < (k : Int) := by omega
                have hjI2 : (j : Int) < (o.length : Int) := by omega
                by_cases hxy : y = x
                · have d1 : (y == x) = true := by simp [hxy]
                  have HXY := Lib.hid hxy
                  clear hxy
                  go_wp2_with fail
                  go_quiet (fail)
                  go_wp2_with fail
                  go_ret2
                  exact checkEnd_of (errMod_false (checkB_dup (HD.out (HXY.out ▸ HMK.out)))) (below_drawn (below_drawn hbw _) _)
                · have d1 : (y == x) = false := by simp [hxy]
                  have HXY := Lib.hid hxy
                  clear hxy
                  go_wp2_with fail
                  go_quiet (fail)
                  go_wp2_with fail
                  go_roundg (gk - 1)
                  case measure => omega
                  case rel => exact ⟨j + 1, by omega, by go_num, (fun h => (HMS.out.1 h).elim HX.out (fun h => HXY.out h.symm)), _, rfl⟩
              · obtain rfl : j = k := by omega
                go_wp2_with fail
                go_roundg (o.length - (j + 1))
                case measure => omega
                case rel => exact ⟨j + 1, by omega, by go_num, by rw [HS.out, HA.out, hq]; rfl, HNN.out.2 ⟨HN.out, HX.out⟩, below_drawn HB.out _⟩
        · obtain rfl : k = o.length := by omega
          have HA2 := Lib.hid (show o.all (withinB · 0 (ms.length - 1)) = true by have := HA.out; rwa [List.take_length] at this)
          have HN2 := Lib.hid (show o.Nodup by have := HN.out; rwa [List.take_length] at this)
          clear HA HN
          go_wp2_with fail
          go_ret2
          exact checkEnd_of (by rw [checkB_ok H1.out HA1.out HA2.out HN2.out]; rfl) hbw
end Go.Proofs.Ytckbfocbainlpaa
