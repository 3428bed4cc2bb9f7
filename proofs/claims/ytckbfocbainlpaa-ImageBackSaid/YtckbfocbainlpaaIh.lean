/- The document's May (layer 24). Condition: what lies in memory can lie there. -/
import Derived.Test.YtckbfocbainlpaaIg
namespace Go.Proofs.Ytckbfocbainlpaa
open Go.RowKit
set_option maxRecDepth 100000

theorem box3 {w w' : World} {a b c : Value} {t : TypeId} (hb : Below (w.heap.size + 1) (w.alloc (.cells #[a, b, c] t)) w') :
    w'.cell? ⟨w.heap.size, 0, none⟩ = some a ∧ w'.cell? ⟨w.heap.size, 1, none⟩ = some b ∧ w'.cell? ⟨w.heap.size, 2, none⟩ = some c ∧ Below w.heap.size w w' ∧ w.heap.size < w'.heap.size := by
  have hb' : Below (w.alloc (.cells #[a, b, c] t)).heap.size (w.alloc (.cells #[a, b, c] t)) w' := by simpa using hb
  exact ⟨by rw [box_cell hb']; rfl, by rw [box_cell hb']; rfl, by rw [box_cell hb']; rfl, (box_below hb').1, (box_below hb').2⟩
theorem nameB_long {s : List UInt8} (h : 255 < s.length) : nameB s = false := by unfold nameB; rw [decide_eq_false (p := s.length ≤ 255) (by omega)]; simp
theorem nameB_ok {s : List UInt8} (h : s ≠ []) (h2 : ¬ 255 < s.length) : nameB s = true := by
  have : 0 < s.length := List.length_pos_iff.2 h
  unfold nameB; rw [decide_eq_true (by omega), decide_eq_true (by omega)]; rfl

set_option maxHeartbeats 1000000 in
theorem refMay_any (s : IS) (i : ImgL) (w : World) (hI : ImgIn w s i) : Calls Try.prog 12 #[imgV s i] w (BoolEnd w (imgB i)) := by
  obtain ⟨A1, c1, A2, c2, A3, c3⟩ := s
  have hn := hI.names_le
  have hm := hI.mods_le
  have ho := hI.order_le
  have HI := Lib.hid hI
  have HW := Lib.hid (alloc_below w (.cells #[.slice A1 i.names.length c1, .slice A2 i.mods.length c2, .slice A3 i.order.length c3] 28))
  clear hI
  unfold imgV
  go_enter Try.func12, Try.ntmps12
  go_wp2_with fail
  refine (refCheck_any A2 A3 c2 c3 i.mods i.order hm ho _ (HI.out.mods.later HW.out (Nat.le_refl _)) (HI.out.order.later HW.out (Nat.le_refl _))).mono ?_
  rintro e w1 ⟨k, rfl, hb⟩
  simp only [World.size_alloc] at hb
  obtain ⟨a0, a1, a2, hbw, hsz⟩ := box3 hb
  clear hb
  cases hq : checkB i.mods i.order
  · have HX := Lib.hid (imgB_check hq)
    rw [show errMod false = 200 from rfl]
    go_wp2_with fail
    go_ret
    exact boolEnd_false HX.out hbw
  have HC := Lib.hid hq
  rw [show errMod true = 0 from rfl]
  clear hq
  by_cases h1 : i.names.length = i.mods.length
  case neg =>
    have HX := Lib.hid (imgB_len1 h1)
    have d1 : ((i.names.length : Int) == (i.mods.length : Int)) = false := by simp; omega
    have d2 : (i.names.length == i.mods.length) = false := by simpa using h1
    have d3 : ((i.names.length : Int) != (i.mods.length : Int)) = true := by simp; omega
    clear h1
    go_wp2_with fail
    go_ret
    exact boolEnd_false HX.out hbw
  by_cases h2 : i.order.length = i.mods.length
  case neg =>
    have HX := Lib.hid (imgB_len2 h2)
    have d1 : ((i.names.length : Int) == (i.mods.length : Int)) = true := by simp; omega
    have d2 : (i.names.length == i.mods.length) = true := by simpa using h1
    have d3 : ((i.names.length : Int) != (i.mods.length : Int)) = false := by simp; omega
    have e1 : ((i.order.length : Int) == (i.mods.length : Int)) = false := by simp; omega
    have e2 : (i.order.length == i.mods.length) = false := by simpa using h2
    have e3 : ((i.order.length : Int) != (i.mods.length : Int)) = true := by simp; omega
    clear h1 h2
    go_wp2_with fail
    go_ret
    exact boolEnd_false HX.out hbw
  have d1 : ((i.names.length : Int) == (i.mods.length : Int)) = true := by simp; omega
  have d2 : (i.names.length == i.mods.length) = true := by simpa using h1
  have d3 : ((i.names.length : Int) != (i.mods.length : Int)) = false := by simp; omega
  have e1 : ((i.order.length : Int) == (i.mods.length : Int)) = true := by simp; omega
  have e2 : (i.order.length == i.mods.length) = true := by simpa using h2
  have e3 : ((i.order.length : Int) != (i.mods.length : Int)) = false := by simp; omega
  have hle : i.names.length ≤ i.order.length := by omega
  have H1 := Lib.hid h1
  have H2 := Lib.hid h2
  clear h1 h2
  go_wp2_with fail
  clear d1 d2 d3 e1 e2 e3
  have HNs := Lib.hid (HI.out.names.later hbw (Nat.le_refl _))
  have HOs := Lib.hid (HI.out.order.later hbw (Nat.le_refl _))
  go_loopg [5] (i.names.length) (fun g v wr => ∃ k : Nat, k + g = i.names.length ∧ v = .int .i64 k ∧ (i.names.take k).all nameB = true ∧ (i.names.take k).Nodup ∧ OrdTo i.order k ∧ ∃ q, wr = w1.drewN q)
  case atStart => exact ⟨0, by omega, rfl, rfl, List.nodup_nil, fun j hj => by omega, 0, rfl⟩
  case round =>
    obtain ⟨k, hk, rfl, hall, hnd, hord, q, rfl⟩ := hrel
    have HA := Lib.hid hall
    have HN := Lib.hid hnd
    have HR := Lib.hid hord
    have HF2 := Lib.hid (below_drawn hbw q)
    clear hall hnd hord
    by_cases hlt : k < i.names.length
    · obtain ⟨b, off, hA1, hbl, c0, hsl⟩ := Each.at_ HNs.out hlt
      obtain ⟨b', off', hA3, hbl', c9⟩ := Each.at_ HOs.out (j := k) (by omega)
      have HS := Lib.hid (all_take_succ nameB i.names k [] hlt)
      have HF := Lib.hid (all_false_at nameB i.names k [] hlt)
      have HD := Lib.hid (not_nodup_at i.names k [] hlt)
      have HNN := Lib.hid (nodup_take_succ i.names k [] hlt)
      have HOr := Lib.hid (ordTo_succ (o := i.order) (k := k) HR.out)
      have HNo := Lib.hid (not_ord (o := i.order) (k := k) (by omega))
      generalize i.names.getD k [] = x at *
      generalize i.order.getD k 0 = y at *
      subst hA1 hA3
      have hkI : (k : Int) < (i.names.length : Int) := by omega
      have hkI2 : (k : Int) < (i.order.length : Int) := by omega
      rw [Nat.mul_one] at c0 c9
      by_cases hx0 : x = []
      · subst hx0
        go_wp2_with fail
        go_ret
        exact boolEnd_false (imgB_name (HF.out rfl)) HF2.out
      have x1 : x.isEmpty = false := by simpa using hx0
      have x2 : (x == []) = false := by simpa using hx0
      have HX0 := Lib.hid hx0
      by_cases hx1 : 255 < x.length
      · go_wp2_with fail
        go_ret
        exact boolEnd_false (imgB_name (HF.out (nameB_long hx1))) HF2.out
      have HX1 := Lib.hid (nameB_ok hx0 hx1)
      by_cases hy : y = (k : Int)
      case neg =>
        have d1 : (y == (k : Int)) = false := by simpa using hy
        have d2 : (y != (k : Int)) = true := by simpa using hy
        have HY := Lib.hid hy
        clear hy
        go_wp2_with fail
        go_ret
        exact boolEnd_false (imgB_ord (HNo.out HY.out)) HF2.out
      have d1 : (y == (k : Int)) = true := by simpa using hy
      have d2 : (y != (k : Int)) = false := by simpa using hy
      have HY := Lib.hid hy
      clear hy
      go_wp2_with fail
      clear d1 d2 c9 x1 x2 hx0
      go_loopg [6] k (fun g i2 wr => ∃ j : Nat, j + g = k ∧ i2 = .int .i64 j ∧ x ∉ i.names.take j ∧ ∃ q2, wr = w1.drewN q2)
      case atStart => exact ⟨0, by omega, rfl, by simp, q, rfl⟩
      case round =>
        obtain ⟨j, hj, rfl, hx, q2, rfl⟩ := hrel
        have HX := Lib.hid hx
        clear hx
        by_cases hjk : j < k
        · obtain ⟨b2, off2, hA', _, c8, _⟩ := Each.at_ HNs.out (j := j) (by omega)
          obtain ⟨rfl, rfl⟩ : b = b2 ∧ off = off2 := by injection hA' with hA'; injection hA' with h1 h2; exact ⟨h1, h2⟩
          clear hA'
          have HMS := Lib.hid (take_mem_succ i.names j [] x (by omega))
          have HMK := Lib.hid (show i.names.getD j [] ∈ i.names.take k by
            rw [List.getD_eq_getElem?_getD, List.getElem?_eq_getElem (by omega)]
            simp only [Option.getD_some]
            exact List.mem_take_iff_getElem.2 ⟨j, by omega, rfl⟩)
          generalize i.names.getD j [] = y at *
          rw [Nat.mul_one] at c8
          have hjI : (j : Int) < (k : Int) := by omega
          have hjI2 : (j : Int) < (i.names.length : Int) := by omega
          by_cases hxy : y = x
          · subst hxy
            go_wp2_with fail
            go_quiet (fail)
            go_wp2_with fail
            go_ret
            exact boolEnd_false (imgB_dup (HD.out HMK.out)) (below_drawn (below_drawn hbw _) _)
          · have d1 : (y == x) = false := by simp [hxy]
            have d2 : decide (y = x) = false := by simp [hxy]
            have HXY := Lib.hid hxy
            clear hxy
            go_wp2_with fail
            go_quiet (fail)
            go_wp2_with fail
            go_roundg (gk - 1)
            case measure => omega
            case rel => exact ⟨j + 1, by omega, by go_num, (fun h => (HMS.out.1 h).elim HX.out (fun h => HXY.out h.symm)), _, rfl⟩
        · obtain rfl : j = k := by omega
          go_wp2_with fail
          go_roundg (i.names.length - (j + 1))
          case measure => omega
          case rel => exact ⟨j + 1, by omega, by go_num, by rw [HS.out, HA.out, HX1.out]; rfl, HNN.out.2 ⟨HN.out, HX.out⟩, HOr.out HY.out, _, rfl⟩
    · obtain rfl : k = i.names.length := by omega
      have HA2 := Lib.hid (show i.names.all nameB = true by have := HA.out; rwa [List.take_length] at this)
      have HN2 := Lib.hid (show i.names.Nodup by have := HN.out; rwa [List.take_length] at this)
      clear HA HN
      go_wp2_with fail
      go_ret
      exact boolEnd_of (imgB_ok HC.out H1.out H2.out HA2.out HN2.out HR.out).symm HF2.out
end Go.Proofs.Ytckbfocbainlpaa
