/- The document's Same (layer 23). Condition: what lies in memory can lie there. (Printed by gen_se.py.) -/
import Derived.Test.YtckbfocbainlpaaSd
namespace Go.Proofs.Ytckbfocbainlpaa
open Go.RowKit
set_option maxRecDepth 100000

theorem Two.drawn {w : World} {cs ds : Array Value} {T : TypeId} {W : World} (h : Two w cs ds T W) (n : Nat) : Two w cs ds T (W.drewN n) := h.grow (below_drawn (Below.refl _ _) n)
set_option maxHeartbeats 4000000 in
theorem refSame_any (s t : IS) (i j : ImgL) (w : World) (hI : ImgIn w s i) (hJ : ImgIn w t j) : Calls Try.prog 14 #[imgV s i, imgV t j] w (BoolEnd w (decide (i = j))) := by
  have HI := Lib.hid hI
  have HJ := Lib.hid hJ
  have hi1 := hI.names_le
  have hi2 := hI.mods_le
  have hi3 := hI.order_le
  have hj1 := hJ.names_le
  have hj2 := hJ.mods_le
  have hj3 := hJ.order_le
  clear hI hJ
  obtain ⟨ns, ms, os⟩ := i
  obtain ⟨ns', ms', os'⟩ := j
  obtain ⟨S1, k1, S2, k2, S3, k3⟩ := s
  obtain ⟨T1, l1, T2, l2, T3, l3⟩ := t
  have HT := Lib.hid (Two.new w #[.slice S1 ns.length k1, .slice S2 ms.length k2, .slice S3 os.length k3] #[.slice T1 ns'.length l1, .slice T2 ms'.length l2, .slice T3 os'.length l3] 28 (by decide))
  unfold imgV
  simp only at hi1 hi2 hi3 hj1 hj2 hj3 ⊢
  by_cases h : ns.length = ns'.length
  case neg =>
    have HX := Lib.hid (img_ne (i := ⟨ns, ms, os⟩) (j := ⟨ns', ms', os'⟩) (.inl (fun e => h (congrArg List.length e))))
    have d1 : ((ns.length : Int) == (ns'.length : Int)) = false := by simp; omega
    have d2 : (ns.length == ns'.length) = false := by simpa using h
    have d3 : ((ns.length : Int) != (ns'.length : Int)) = true := by simp; omega
    clear h
    go_enter Try.func14, Try.ntmps14
    go_wp2_with fail
    go_ret
    exact boolEnd_false HX.out HT.out.old
  have HL1 := Lib.hid h
  have d11 : ((ns.length : Int) == (ns'.length : Int)) = true := by simp; omega
  have d21 : (ns.length == ns'.length) = true := by simpa using h
  have d31 : ((ns.length : Int) != (ns'.length : Int)) = false := by simp; omega
  clear h
  by_cases h : ms.length = ms'.length
  case neg =>
    have HX := Lib.hid (img_ne (i := ⟨ns, ms, os⟩) (j := ⟨ns', ms', os'⟩) (.inr (.inl (fun e => h (congrArg List.length e)))))
    have d1 : ((ms.length : Int) == (ms'.length : Int)) = false := by simp; omega
    have d2 : (ms.length == ms'.length) = false := by simpa using h
    have d3 : ((ms.length : Int) != (ms'.length : Int)) = true := by simp; omega
    clear h
    go_enter Try.func14, Try.ntmps14
    go_wp2_with fail
    go_ret
    exact boolEnd_false HX.out HT.out.old
  have HL2 := Lib.hid h
  have d12 : ((ms.length : Int) == (ms'.length : Int)) = true := by simp; omega
  have d22 : (ms.length == ms'.length) = true := by simpa using h
  have d32 : ((ms.length : Int) != (ms'.length : Int)) = false := by simp; omega
  clear h
  by_cases h : os.length = os'.length
  case neg =>
    have HX := Lib.hid (img_ne (i := ⟨ns, ms, os⟩) (j := ⟨ns', ms', os'⟩) (.inr (.inr (fun e => h (congrArg List.length e)))))
    have d1 : ((os.length : Int) == (os'.length : Int)) = false := by simp; omega
    have d2 : (os.length == os'.length) = false := by simpa using h
    have d3 : ((os.length : Int) != (os'.length : Int)) = true := by simp; omega
    clear h
    go_enter Try.func14, Try.ntmps14
    go_wp2_with fail
    go_ret
    exact boolEnd_false HX.out HT.out.old
  have HL3 := Lib.hid h
  have d13 : ((os.length : Int) == (os'.length : Int)) = true := by simp; omega
  have d23 : (os.length == os'.length) = true := by simpa using h
  have d33 : ((os.length : Int) != (os'.length : Int)) = false := by simp; omega
  clear h
  go_enter Try.func14, Try.ntmps14
  go_wp2_with fail
  clear d11 d21 d31 d12 d22 d32 d13 d23 d33
  go_loopg [5] (ns.length) (fun g i wr => ∃ k : Nat, k + g = ns.length ∧ i = .int .i64 k ∧ ns.take k = ns'.take k ∧ Two w #[.slice S1 ns.length k1, .slice S2 ms.length k2, .slice S3 os.length k3] #[.slice T1 ns'.length l1, .slice T2 ms'.length l2, .slice T3 os'.length l3] 28 wr)
  case atStart => exact ⟨0, by omega, rfl, rfl, HT.out⟩
  case round =>
    clear HT
    obtain ⟨k, hk, rfl, hall, hT⟩ := hrel
    have HA := Lib.hid hall
    have HTw := Lib.hid hT
    have b1 := hT.c 0 (.slice S1 ns.length k1) rfl
    have e1 := hT.d 0 (.slice T1 ns'.length l1) rfl
    clear hall
    by_cases hlt : k < ns.length
    · have hlt2 : k < ns'.length := by have := HL1.out; omega
      obtain ⟨b1', o1, hA1, hbl1, c0⟩ := Each.at_ (HI.out.names.later hT.old (Nat.le_refl _)) hlt
      obtain ⟨b2, o2, hA2, hbl2, e0⟩ := Each.at_ (HJ.out.names.later hT.old (Nat.le_refl _)) hlt2
      have HS := Lib.hid (fun he => eq_take_succ (xs := ns) (ys := ns') k [] hlt hlt2 HA.out he)
      have HN := Lib.hid (fun he : ns.getD k [] ≠ ns'.getD k [] => show ns ≠ ns' from fun e => he (by rw [e]))
      have hkI : (k : Int) < (ns.length : Int) := by omega
      have hkI2 : (k : Int) < (ns'.length : Int) := by omega
      clear hT
      generalize ns.getD k [] = x at *
      generalize ns'.getD k [] = y at *
      simp only at hA1 hA2
      subst hA1 hA2
      obtain ⟨c0, _⟩ := c0
      obtain ⟨e0, _⟩ := e0
      rw [Nat.mul_one] at c0 e0
      by_cases hxy : x = y
      · subst hxy
        go_wp2_with fail
        go_quiet (fail)
        go_wp2_with fail
        go_roundg (gk - 1)
        case measure => omega
        case rel => exact ⟨k + 1, by omega, by go_num, HS.out (by first | rfl | trivial), HTw.out.drawn _⟩
      · have HX := Lib.hid ((fun e => img_ne (i := ⟨ns, ms, os⟩) (j := ⟨ns', ms', os'⟩) (.inl e)) (HN.out hxy))
        have f1 : (x == y) = false := by simp [hxy]
        have f2 : decide (x = y) = false := by simp [hxy]
        have f3 : (x != y) = true := by simp [hxy]
        clear hxy
        go_wp2_with fail
        go_quiet (fail)
        go_wp2_with fail
        go_ret
        exact boolEnd_false HX.out (HTw.out.drawn _).old
    · obtain rfl : k = ns.length := by omega
      have HE1 := Lib.hid (take_all HL1.out HA.out)
      have HT1 := HTw
      clear HA HTw hT
      go_wp2_with fail
      clear b1 e1
      go_loopg [6] (ms.length) (fun g i wr => ∃ k : Nat, k + g = ms.length ∧ i = .int .i64 k ∧ ms.take k = ms'.take k ∧ Two w #[.slice S1 ns.length k1, .slice S2 ms.length k2, .slice S3 os.length k3] #[.slice T1 ns'.length l1, .slice T2 ms'.length l2, .slice T3 os'.length l3] 28 wr)
      case atStart => exact ⟨0, by omega, rfl, rfl, HT1.out⟩
      case round =>
        clear HT1
        obtain ⟨k, hk, rfl, hall, hT⟩ := hrel
        have HA := Lib.hid hall
        have HTw := Lib.hid hT
        have b1 := hT.c 1 (.slice S2 ms.length k2) rfl
        have e1 := hT.d 1 (.slice T2 ms'.length l2) rfl
        clear hall
        by_cases hlt : k < ms.length
        · have hlt2 : k < ms'.length := by have := HL2.out; omega
          obtain ⟨b1', o1, hA1, hbl1, c0⟩ := Each.at_ (HI.out.mods.later hT.old (Nat.le_refl _)) hlt
          obtain ⟨b2, o2, hA2, hbl2, e0⟩ := Each.at_ (HJ.out.mods.later hT.old (Nat.le_refl _)) hlt2
          have HS := Lib.hid (fun he => eq_take_succ (xs := ms) (ys := ms') k default hlt hlt2 HA.out he)
          have HN := Lib.hid (fun he : ms.getD k default ≠ ms'.getD k default => show ms ≠ ms' from fun e => he (by rw [e]))
          have hkI : (k : Int) < (ms.length : Int) := by omega
          have hkI2 : (k : Int) < (ms'.length : Int) := by omega
          clear hT
          generalize ms.getD k default = x at *
          generalize ms'.getD k default = y at *
          simp only at hA1 hA2
          subst hA1 hA2
          obtain ⟨s1, hM1, c0, c1, c2, c3, c4⟩ := c0
          obtain ⟨s2, hM2, g0, g1, g2, g3, g4⟩ := e0
          have HM1 := Lib.hid hM1
          have HM2 := Lib.hid hM2
          clear hM1 hM2
          have HC := Lib.hid (show ∀ gx, Calls Try.prog 37 #[modV s1 x, modV s2 y] (growN wr gx) (BoolEnd (growN wr gx) (decide (x = y))) from fun gx => refSameModule_any s1 s2 x y _ (HM1.out.later (growN_below wr gx) (Nat.le_refl _)) (HM2.out.later (growN_below wr gx) (Nat.le_refl _)))
          obtain ⟨dd, hdd⟩ : ∃ dd, dd = decide (x = y) := ⟨_, rfl⟩
          rw [← hdd] at HC
          have HDD := Lib.hid hdd
          clear hdd
          unfold modV BoolEnd at HC
          have z1 := HTw.out.one.lt
          have z2 := HTw.out.two.lt
          go_wp2_with fail
          refine wp_region_grow (by kernel_rfl) (by kernel_rfl) ?_
          repeat (first | go_big_quiet_step (first | (refine quiet_grow (HC.out _))))
          refine wpQuiet_nil ?_
          rintro _ ⟨gx, rfl⟩
          have HTg := Lib.hid (HTw.out.grow (growN_below wr gx))
          generalize growN wr gx = wg at *
          clear b1 e1 c0 c1 c2 c3 c4 g0 g1 g2 g3 g4
          cases dd
          case true =>
            have HXY := Lib.hid (HS.out (of_decide_eq_true HDD.out.symm))
            go_wp2_with fail
            go_roundg (gk - 1)
            case measure => omega
            case rel => exact ⟨k + 1, by omega, by go_num, HXY.out, HTg.out⟩
          case false =>
            have HX := Lib.hid ((fun e => img_ne (i := ⟨ns, ms, os⟩) (j := ⟨ns', ms', os'⟩) (.inr (.inl e))) (HN.out (of_decide_eq_false HDD.out.symm)))
            go_wp2_with fail
            go_ret
            exact boolEnd_false HX.out HTg.out.old
        · obtain rfl : k = ms.length := by omega
          have HE2 := Lib.hid (take_all HL2.out HA.out)
          have HT2 := HTw
          clear HA HTw hT
          go_wp2_with fail
          clear b1 e1
          go_loopg [7] (os.length) (fun g i wr => ∃ k : Nat, k + g = os.length ∧ i = .int .i64 k ∧ os.take k = os'.take k ∧ Two w #[.slice S1 ns.length k1, .slice S2 ms.length k2, .slice S3 os.length k3] #[.slice T1 ns'.length l1, .slice T2 ms'.length l2, .slice T3 os'.length l3] 28 wr)
          case atStart => exact ⟨0, by omega, rfl, rfl, HT2.out⟩
          case round =>
            clear HT2
            obtain ⟨k, hk, rfl, hall, hT⟩ := hrel
            have HA := Lib.hid hall
            have HTw := Lib.hid hT
            have b1 := hT.c 2 (.slice S3 os.length k3) rfl
            have e1 := hT.d 2 (.slice T3 os'.length l3) rfl
            clear hall
            by_cases hlt : k < os.length
            · have hlt2 : k < os'.length := by have := HL3.out; omega
              obtain ⟨b1', o1, hA1, hbl1, c0⟩ := Each.at_ (HI.out.order.later hT.old (Nat.le_refl _)) hlt
              obtain ⟨b2, o2, hA2, hbl2, e0⟩ := Each.at_ (HJ.out.order.later hT.old (Nat.le_refl _)) hlt2
              have HS := Lib.hid (fun he => eq_take_succ (xs := os) (ys := os') k 0 hlt hlt2 HA.out he)
              have HN := Lib.hid (fun he : os.getD k 0 ≠ os'.getD k 0 => show os ≠ os' from fun e => he (by rw [e]))
              have hkI : (k : Int) < (os.length : Int) := by omega
              have hkI2 : (k : Int) < (os'.length : Int) := by omega
              clear hT
              generalize os.getD k 0 = x at *
              generalize os'.getD k 0 = y at *
              simp only at hA1 hA2
              subst hA1 hA2
              rw [Nat.mul_one] at c0 e0
              by_cases hxy : x = y
              · subst hxy
                go_wp2_with fail
                go_quiet (fail)
                go_wp2_with fail
                go_roundg (gk - 1)
                case measure => omega
                case rel => exact ⟨k + 1, by omega, by go_num, HS.out (by first | rfl | trivial), HTw.out.drawn _⟩
              · have HX := Lib.hid ((fun e => img_ne (i := ⟨ns, ms, os⟩) (j := ⟨ns', ms', os'⟩) (.inr (.inr e))) (HN.out hxy))
                have f1 : (x == y) = false := by simp [hxy]
                have f2 : decide (x = y) = false := by simp [hxy]
                have f3 : (x != y) = true := by simp [hxy]
                clear hxy
                go_wp2_with fail
                go_quiet (fail)
                go_wp2_with fail
                go_ret
                exact boolEnd_false HX.out (HTw.out.drawn _).old
            · obtain rfl : k = os.length := by omega
              have HE3 := Lib.hid (take_all HL3.out HA.out)
              have HT3 := HTw
              clear HA HTw hT
              go_wp2_with fail
              go_ret
              exact boolEnd_of (decide_eq_true (show (⟨ns, ms, os⟩ : ImgL) = ⟨ns', ms', os'⟩ by rw [HE1.out, HE2.out, HE3.out])).symm HT3.out.old
end Go.Proofs.Ytckbfocbainlpaa
