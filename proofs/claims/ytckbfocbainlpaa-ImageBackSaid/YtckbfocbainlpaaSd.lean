/- The document's SameModule, Same. Condition: what lies in memory can lie there. (Printed by gen_sd.py.) -/
import Derived.Test.YtckbfocbainlpaaSc
namespace Go.Proofs.Ytckbfocbainlpaa
open Go.RowKit
set_option maxRecDepth 100000

theorem take_all {α : Type} {xs ys : List α} (hl : xs.length = ys.length) (h : xs.take xs.length = ys.take xs.length) : xs = ys := by
  rw [List.take_length, hl, List.take_length] at h; exact h
set_option maxHeartbeats 4000000 in
theorem refSameModule_any (s t : MS) (m n : ModL) (w : World) (hM : ModIn w s m) (hN : ModIn w t n) : Calls Try.prog 37 #[modV s m, modV t n] w (BoolEnd w (decide (m = n))) := by
  have HM := Lib.hid hM
  have HN0 := Lib.hid hN
  have hm1 := hM.procs_le
  have hm2 := hM.imports_le
  have hm3 := hM.init_le
  have hn1 := hN.procs_le
  have hn2 := hN.imports_le
  have hn3 := hN.init_le
  clear hM hN
  obtain ⟨mc, mp, mi, md, mt⟩ := m
  obtain ⟨nc, np, ni, nd, nt⟩ := n
  obtain ⟨S1, k1, S2, k2, S3, k3⟩ := s
  obtain ⟨T1, l1, T2, l2, T3, l3⟩ := t
  have HT := Lib.hid (Two.new w #[.string ⟨mc.toArray⟩, .slice S1 mp.length k1, .slice S2 mi.length k2, .int .i64 md, .slice S3 mt.length k3] #[.string ⟨nc.toArray⟩, .slice T1 np.length l1, .slice T2 ni.length l2, .int .i64 nd, .slice T3 nt.length l3] 41 (by decide))
  unfold modV
  simp only at hm1 hm2 hm3 hn1 hn2 hn3 ⊢
  by_cases h1 : mc = nc
  case neg =>
    have HX := Lib.hid (mod_ne (m := ⟨mc, mp, mi, md, mt⟩) (n := ⟨nc, np, ni, nd, nt⟩) (.inl h1))
    have f1 : (mc == nc) = false := by simp [h1]
    have f2 : decide (mc = nc) = false := by simp [h1]
    clear h1
    go_enter Try.func37, Try.ntmps37
    go_wp2_with fail
    go_ret
    exact boolEnd_false HX.out HT.out.old
  subst h1
  by_cases h1 : md = nd
  case neg =>
    have HX := Lib.hid (mod_ne (m := ⟨mc, mp, mi, md, mt⟩) (n := ⟨mc, np, ni, nd, nt⟩) (.inr (.inr (.inr (.inl h1)))))
    have f1 : (md == nd) = false := by simp [h1]
    have f3 : (md != nd) = true := by simp [h1]
    clear h1
    go_enter Try.func37, Try.ntmps37
    go_wp2_with fail
    go_ret
    exact boolEnd_false HX.out HT.out.old
  subst h1
  by_cases h : mp.length = np.length
  case neg =>
    have HX := Lib.hid (mod_ne (m := ⟨mc, mp, mi, md, mt⟩) (n := ⟨mc, np, ni, md, nt⟩) (.inr (.inl (fun e => h (congrArg List.length e)))))
    have d1 : ((mp.length : Int) == (np.length : Int)) = false := by simp; omega
    have d2 : (mp.length == np.length) = false := by simpa using h
    have d3 : ((mp.length : Int) != (np.length : Int)) = true := by simp; omega
    clear h
    go_enter Try.func37, Try.ntmps37
    go_wp2_with fail
    go_ret
    exact boolEnd_false HX.out HT.out.old
  have HL1 := Lib.hid h
  have d11 : ((mp.length : Int) == (np.length : Int)) = true := by simp; omega
  have d21 : (mp.length == np.length) = true := by simpa using h
  have d31 : ((mp.length : Int) != (np.length : Int)) = false := by simp; omega
  clear h
  by_cases h : mi.length = ni.length
  case neg =>
    have HX := Lib.hid (mod_ne (m := ⟨mc, mp, mi, md, mt⟩) (n := ⟨mc, np, ni, md, nt⟩) (.inr (.inr (.inl (fun e => h (congrArg List.length e))))))
    have d1 : ((mi.length : Int) == (ni.length : Int)) = false := by simp; omega
    have d2 : (mi.length == ni.length) = false := by simpa using h
    have d3 : ((mi.length : Int) != (ni.length : Int)) = true := by simp; omega
    clear h
    go_enter Try.func37, Try.ntmps37
    go_wp2_with fail
    go_ret
    exact boolEnd_false HX.out HT.out.old
  have HL2 := Lib.hid h
  have d12 : ((mi.length : Int) == (ni.length : Int)) = true := by simp; omega
  have d22 : (mi.length == ni.length) = true := by simpa using h
  have d32 : ((mi.length : Int) != (ni.length : Int)) = false := by simp; omega
  clear h
  by_cases h : mt.length = nt.length
  case neg =>
    have HX := Lib.hid (mod_ne (m := ⟨mc, mp, mi, md, mt⟩) (n := ⟨mc, np, ni, md, nt⟩) (.inr (.inr (.inr (.inr (fun e => h (congrArg List.length e)))))))
    have d1 : ((mt.length : Int) == (nt.length : Int)) = false := by simp; omega
    have d2 : (mt.length == nt.length) = false := by simpa using h
    have d3 : ((mt.length : Int) != (nt.length : Int)) = true := by simp; omega
    clear h
    go_enter Try.func37, Try.ntmps37
    go_wp2_with fail
    go_ret
    exact boolEnd_false HX.out HT.out.old
  have HL3 := Lib.hid h
  have d13 : ((mt.length : Int) == (nt.length : Int)) = true := by simp; omega
  have d23 : (mt.length == nt.length) = true := by simpa using h
  have d33 : ((mt.length : Int) != (nt.length : Int)) = false := by simp; omega
  clear h
  go_enter Try.func37, Try.ntmps37
  go_wp2_with fail
  clear d11 d21 d31 d12 d22 d32 d13 d23 d33
  have HMw := Lib.hid (HM.out.later HT.out.old (Nat.le_refl _))
  have HNw := Lib.hid (HN0.out.later HT.out.old (Nat.le_refl _))
  generalize (w.alloc (.cells #[.string ⟨mc.toArray⟩, .slice S1 mp.length k1, .slice S2 mi.length k2, .int .i64 md, .slice S3 mt.length k3] 41)).alloc (.cells #[.string ⟨mc.toArray⟩, .slice T1 np.length l1, .slice T2 ni.length l2, .int .i64 md, .slice T3 nt.length l3] 41) = W at *
  have b1 := HT.out.c 1 (.slice S1 mp.length k1) rfl
  have b2 := HT.out.c 2 (.slice S2 mi.length k2) rfl
  have b4 := HT.out.c 4 (.slice S3 mt.length k3) rfl
  have e1 := HT.out.d 1 (.slice T1 np.length l1) rfl
  have e2 := HT.out.d 2 (.slice T2 ni.length l2) rfl
  have e4 := HT.out.d 4 (.slice T3 nt.length l3) rfl
  go_loopg [5] (mp.length) (fun g i wr => ∃ k : Nat, k + g = mp.length ∧ i = .int .i64 k ∧ mp.take k = np.take k ∧ ∃ q, wr = W.drewN q)
  case atStart => exact ⟨0, by omega, rfl, rfl, 0, rfl⟩
  case round =>
    obtain ⟨k, hk, rfl, hall, q, rfl⟩ := hrel
    have HA := Lib.hid hall
    clear hall
    by_cases hlt : k < mp.length
    · have hlt2 : k < np.length := by have := HL1.out; omega
      obtain ⟨b1, o1, hA1, hbl1, c0⟩ := Each.at_ HMw.out.procs hlt
      obtain ⟨b2, o2, hA2, hbl2, e0⟩ := Each.at_ HNw.out.procs hlt2
      have HS := Lib.hid (fun he => eq_take_succ (xs := mp) (ys := np) k default hlt hlt2 HA.out he)
      have HN := Lib.hid (fun he : mp.getD k default ≠ np.getD k default => show mp ≠ np from fun e => he (by rw [e]))
      have hkI : (k : Int) < (mp.length : Int) := by omega
      have hkI2 : (k : Int) < (np.length : Int) := by omega
      generalize mp.getD k default = x at *
      generalize np.getD k default = y at *
      simp only at hA1 hA2
      subst hA1 hA2
      obtain ⟨c0, c1, c2, c3, c4, c5⟩ := c0
      obtain ⟨g0, g1, g2, g3, g4, g5⟩ := e0
      by_cases hxy : x = y
      · subst hxy
        go_wp2_with fail
        go_quiet (fail)
        go_wp2_with fail
        go_roundg (gk - 1)
        case measure => omega
        case rel => exact ⟨k + 1, by omega, by go_num, HS.out (by first | rfl | trivial), _, rfl⟩
      · have HX := Lib.hid ((fun e => mod_ne (m := ⟨mc, mp, mi, md, mt⟩) (n := ⟨mc, np, ni, md, nt⟩) (.inr (.inl e))) (HN.out hxy))
        obtain ⟨xa, xp, xl, xd, xv, xf⟩ := x
        obtain ⟨ya, yp, yl, yd, yv, yf⟩ := y
        simp only at c0 c1 c2 c3 c4 c5 g0 g1 g2 g3 g4 g5
        have HD : (xa == ya) = false ∨ (xa = ya ∧ (xp == yp) = false) ∨ (xa = ya ∧ xp = yp ∧ (xl == yl) = false) ∨ (xa = ya ∧ xp = yp ∧ xl = yl ∧ (xd == yd) = false) ∨ (xa = ya ∧ xp = yp ∧ xl = yl ∧ xd = yd ∧ (xv == yv) = false) ∨ (xa = ya ∧ xp = yp ∧ xl = yl ∧ xd = yd ∧ xv = yv ∧ (xf == yf) = false) := by
          simp only [beq_eq_false_iff_ne, ne_eq]
          by_cases j1 : xa = ya
          · by_cases j2 : xp = yp
            · by_cases j3 : xl = yl
              · by_cases j4 : xd = yd
                · by_cases j5 : xv = yv
                  · exact .inr (.inr (.inr (.inr (.inr ⟨j1, j2, j3, j4, j5, fun j6 => hxy (by rw [j1, j2, j3, j4, j5, j6])⟩))))
                  · exact .inr (.inr (.inr (.inr (.inl ⟨j1, j2, j3, j4, j5⟩))))
                · exact .inr (.inr (.inr (.inl ⟨j1, j2, j3, j4⟩)))
              · exact .inr (.inr (.inl ⟨j1, j2, j3⟩))
            · exact .inr (.inl ⟨j1, j2⟩)
          · exact .inl j1
        have HXY := Lib.hid hxy
        rcases HD with f1 | ⟨rfl, f1⟩ | ⟨rfl, rfl, f1⟩ | ⟨rfl, rfl, rfl, f1⟩ | ⟨rfl, rfl, rfl, rfl, f1⟩ | ⟨rfl, rfl, rfl, rfl, rfl, f1⟩
        all_goals clear HXY hxy
        all_goals
          go_wp2_with fail
          go_quiet (fail)
          go_wp2_with fail
          go_ret
          exact boolEnd_false HX.out (below_drawn (below_drawn HT.out.old _) _)
    · obtain rfl : k = mp.length := by omega
      have HE1 := Lib.hid (take_all HL1.out HA.out)
      clear HA
      go_wp2_with fail
      go_loopg [6] (mi.length) (fun g i wr => ∃ k : Nat, k + g = mi.length ∧ i = .int .i64 k ∧ mi.take k = ni.take k ∧ ∃ q, wr = W.drewN q)
      case atStart => exact ⟨0, by omega, rfl, rfl, _, rfl⟩
      case round =>
        obtain ⟨k, hk, rfl, hall, q, rfl⟩ := hrel
        have HA := Lib.hid hall
        clear hall
        by_cases hlt : k < mi.length
        · have hlt2 : k < ni.length := by have := HL2.out; omega
          obtain ⟨b1, o1, hA1, hbl1, c0⟩ := Each.at_ HMw.out.imports hlt
          obtain ⟨b2, o2, hA2, hbl2, e0⟩ := Each.at_ HNw.out.imports hlt2
          have HS := Lib.hid (fun he => eq_take_succ (xs := mi) (ys := ni) k 0 hlt hlt2 HA.out he)
          have HN := Lib.hid (fun he : mi.getD k 0 ≠ ni.getD k 0 => show mi ≠ ni from fun e => he (by rw [e]))
          have hkI : (k : Int) < (mi.length : Int) := by omega
          have hkI2 : (k : Int) < (ni.length : Int) := by omega
          generalize mi.getD k 0 = x at *
          generalize ni.getD k 0 = y at *
          simp only at hA1 hA2
          subst hA1 hA2
          rw [Nat.mul_one] at c0 e0
          by_cases hxy : x = y
          · subst hxy
            go_wp2_with fail
            go_quiet (fail)
            go_wp2_with fail
            go_roundg (gk - 1)
            case measure => omega
            case rel => exact ⟨k + 1, by omega, by go_num, HS.out (by first | rfl | trivial), _, rfl⟩
          · have HX := Lib.hid ((fun e => mod_ne (m := ⟨mc, mp, mi, md, mt⟩) (n := ⟨mc, np, ni, md, nt⟩) (.inr (.inr (.inl e)))) (HN.out hxy))
            have f1 : (x == y) = false := by simp [hxy]
            have f2 : decide (x = y) = false := by simp [hxy]
            have f3 : (x != y) = true := by simp [hxy]
            clear hxy
            all_goals
              go_wp2_with fail
              go_quiet (fail)
              go_wp2_with fail
              go_ret
              exact boolEnd_false HX.out (below_drawn (below_drawn HT.out.old _) _)
        · obtain rfl : k = mi.length := by omega
          have HE2 := Lib.hid (take_all HL2.out HA.out)
          clear HA
          go_wp2_with fail
          go_loopg [7] (mt.length) (fun g i wr => ∃ k : Nat, k + g = mt.length ∧ i = .int .i64 k ∧ mt.take k = nt.take k ∧ ∃ q, wr = W.drewN q)
          case atStart => exact ⟨0, by omega, rfl, rfl, _, rfl⟩
          case round =>
            obtain ⟨k, hk, rfl, hall, q, rfl⟩ := hrel
            have HA := Lib.hid hall
            clear hall
            by_cases hlt : k < mt.length
            · have hlt2 : k < nt.length := by have := HL3.out; omega
              obtain ⟨b1, o1, hA1, hbl1, c0⟩ := Each.at_ HMw.out.init hlt
              obtain ⟨b2, o2, hA2, hbl2, e0⟩ := Each.at_ HNw.out.init hlt2
              have HS := Lib.hid (fun he => eq_take_succ (xs := mt) (ys := nt) k 0 hlt hlt2 HA.out he)
              have HN := Lib.hid (fun he : mt.getD k 0 ≠ nt.getD k 0 => show mt ≠ nt from fun e => he (by rw [e]))
              have hkI : (k : Int) < (mt.length : Int) := by omega
              have hkI2 : (k : Int) < (nt.length : Int) := by omega
              generalize mt.getD k 0 = x at *
              generalize nt.getD k 0 = y at *
              simp only at hA1 hA2
              subst hA1 hA2
              obtain ⟨c0, _⟩ := c0
              obtain ⟨e0, _⟩ := e0
              rw [Nat.mul_one] at c0 e0
              by_cases hxy : x = y
              · subst hxy
                go_wp2_with fail
                go_quiet (fail)
                go_wp2_with fail
                go_roundg (gk - 1)
                case measure => omega
                case rel => exact ⟨k + 1, by omega, by go_num, HS.out (by first | rfl | trivial), _, rfl⟩
              · have HX := Lib.hid ((fun e => mod_ne (m := ⟨mc, mp, mi, md, mt⟩) (n := ⟨mc, np, ni, md, nt⟩) (.inr (.inr (.inr (.inr e))))) (HN.out hxy))
                have f1 : ((x : Int) == (y : Int)) = false := by simp; omega
                have f2 : (x == y) = false := by simp [hxy]
                have f3 : ((x : Int) != (y : Int)) = true := by simp; omega
                clear hxy
                all_goals
                  go_wp2_with fail
                  go_quiet (fail)
                  go_wp2_with fail
                  go_ret
                  exact boolEnd_false HX.out (below_drawn (below_drawn HT.out.old _) _)
            · obtain rfl : k = mt.length := by omega
              have HE3 := Lib.hid (take_all HL3.out HA.out)
              clear HA
              go_wp2_with fail
              go_ret
              exact boolEnd_of (decide_eq_true (show (⟨mc, mp, mi, md, mt⟩ : ModL) = ⟨mc, np, ni, md, nt⟩ by rw [HE1.out, HE2.out, HE3.out])).symm (below_drawn HT.out.old _)
end Go.Proofs.Ytckbfocbainlpaa
