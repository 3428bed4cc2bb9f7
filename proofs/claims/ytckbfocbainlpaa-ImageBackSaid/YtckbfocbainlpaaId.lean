/- The document's in, module. Condition: what lies in memory can lie there. -/
import Derived.Test.YtckbfocbainlpaaIc
namespace Go.Proofs.Ytckbfocbainlpaa
open Go.RowKit
set_option maxRecDepth 100000

theorem refIn_any (n lo hi : Int) (w : World) : Calls Try.prog 53 #[.int .i64 n, .int .i64 lo, .int .i64 hi] w fun e w' => e = .returned (.bool (withinB n lo hi)) ∧ w = w' := by
  by_cases h : lo ≤ n
  · have h1 : decide (lo ≤ n) = true := by simpa using h
    go_enter Try.func53, Try.ntmps53
    go_wp2_with fail
    go_ret
    exact ⟨by unfold withinB; rw [h1]; rfl, rfl⟩
  · have h1 : decide (lo ≤ n) = false := by simpa using h
    go_enter Try.func53, Try.ntmps53
    go_wp2_with fail
    go_ret
    exact ⟨by unfold withinB; rw [h1]; rfl, rfl⟩

set_option maxHeartbeats 1000000 in
theorem refModule_head (s : MS) (m : ModL) (n : Int) (w : World) (hc : m.code.length ≤ 140737488355328) (hp : m.procs.length ≤ 140737488355328) (hi : m.imports.length ≤ 140737488355328) (ht : m.init.length ≤ 140737488355328) (h : headB m = false) :
    Calls Try.prog 52 #[modV s m, .int .i64 n] w (BoolEnd w (modB m n)) := by
  have HM := Lib.hid (show modB m n = false by unfold modB; rw [h]; simp)
  have HH := Lib.hid h
  clear h
  have HB := Lib.hid (alloc_below w (.cells #[.string ⟨m.code.toArray⟩, .slice s.A1 m.procs.length s.c1, .slice s.A2 m.imports.length s.c2, .int .i64 m.data, .slice s.A3 m.init.length s.c3] 41))
  unfold modV
  by_cases h1 : 65535 < m.code.length
  · go_enter Try.func52, Try.ntmps52
    go_wp2_with (first | (go_at_call 53; refine (refIn_any _ _ _ _).mono ?_; rintro e w' ⟨rfl, rfl⟩))
    go_ret
    exact boolEnd_false HM.out HB.out
  cases h2 : withinB m.procs.length 1 1024
  · go_enter Try.func52, Try.ntmps52
    go_wp2_with (first | (go_at_call 53; refine (refIn_any _ _ _ _).mono ?_; rintro e w' ⟨rfl, rfl⟩))
    go_ret
    exact boolEnd_false HM.out HB.out
  by_cases h3 : 255 < m.imports.length
  · go_enter Try.func52, Try.ntmps52
    go_wp2_with (first | (go_at_call 53; refine (refIn_any _ _ _ _).mono ?_; rintro e w' ⟨rfl, rfl⟩))
    go_ret
    exact boolEnd_false HM.out HB.out
  have h4 : withinB m.data m.init.length 65535 = false := by
    have := HH.out
    rw [headB_eq, h2, decide_eq_false h1, decide_eq_false h3] at this
    simpa using this
  go_enter Try.func52, Try.ntmps52
  go_wp2_with (first | (go_at_call 53; refine (refIn_any _ _ _ _).mono ?_; rintro e w' ⟨rfl, rfl⟩))
  go_ret
  exact boolEnd_false HM.out HB.out


set_option maxHeartbeats 2000000 in
theorem refModule_main (s : MS) (m : ModL) (n : Int) (hn : 0 ≤ n) (hn2 : n ≤ 140737488355328) (w : World) (hI : ModIn w s m) (h : headB m = true) :
    Calls Try.prog 52 #[modV s m, .int .i64 n] w (BoolEnd w (modB m n)) := by
  have HH := Lib.hid h
  have h' := h
  rw [headB_eq] at h'
  simp only [Bool.and_eq_true, Bool.not_eq_true', decide_eq_false_iff_not] at h'
  obtain ⟨⟨⟨h1, h2⟩, h3⟩, h4⟩ := h'
  have hpl : 1 ≤ m.procs.length ∧ m.procs.length ≤ 1024 := by
    have := h2
    simp [withinB] at this; omega
  obtain ⟨hp1, hp2⟩ := hpl
  have hil := hI.init_le
  have HI := Lib.hid hI
  clear h hI
  unfold modV
  go_enter Try.func52, Try.ntmps52
  go_wp2_with (first | (go_at_call 53; refine (refIn_any _ _ _ _).mono ?_; rintro e w' ⟨rfl, rfl⟩))
  clear h2 h4
  go_loopg [5] (m.procs.length) (fun g i wr => ∃ k : Nat, k + g = m.procs.length ∧ i = .int .i64 k ∧ (m.procs.take k).all (mayB · m.code.length) = true ∧ Below (w.heap.size + 1) (w.alloc (.cells #[.string ⟨m.code.toArray⟩, .slice s.A1 m.procs.length s.c1, .slice s.A2 m.imports.length s.c2, .int .i64 m.data, .slice s.A3 m.init.length s.c3] 41)) wr)
  case atStart => exact ⟨0, by omega, rfl, rfl, Below.refl _ _⟩
  case round =>
    obtain ⟨k, hk, rfl, hall, hb⟩ := hrel
    have HA := Lib.hid hall
    obtain ⟨b0, b1, b2, b3, b4, hbw, hsz⟩ := box5 hb
    have HB := Lib.hid hb
    clear hall hb
    by_cases hlt : k < m.procs.length
    · obtain ⟨b, off, hA1, hbl, hP⟩ := Each.at_ (HI.out.procs.later hbw (Nat.le_refl _)) hlt
      have HS := Lib.hid (all_take_succ (mayB · m.code.length) m.procs k default hlt)
      have HF := Lib.hid (all_false_at (mayB · m.code.length) m.procs k default hlt)
      generalize m.procs.getD k default = p at *
      obtain ⟨c0, c1, c2, c3, c4, c5⟩ := hP
      obtain ⟨A1, cc1, A2, cc2, A3, cc3⟩ := s
      simp only at hA1 ⊢
      subst hA1
      have hkI : (k : Int) < (m.procs.length : Int) := by omega
      have HE := Lib.hid (alloc_below wr (.cells #[.int .i64 p.at_, .int .i64 p.params, .int .i64 p.locals, .int .i64 p.depth, .int .i64 p.level, .bool p.fn] 90))
      obtain ⟨pa, pp, pl, pd, pv, pf⟩ := p
      simp only at c0 c1 c2 c3 c4 c5 HE HF HS
      cases q0 : withinB pa 0 m.code.length
      · go_wp2_with (first | (go_at_call 53; refine (refIn_any _ _ _ _).mono ?_; rintro e w' ⟨rfl, rfl⟩))
        go_ret
        exact boolEnd_false (modB_may (HF.out (by unfold mayB; simp only [q0]; simp))) (hbw.trans (HE.out.mono (by omega)))
      cases q1 : withinB pp 0 65535
      · go_wp2_with (first | (go_at_call 53; refine (refIn_any _ _ _ _).mono ?_; rintro e w' ⟨rfl, rfl⟩))
        go_ret
        exact boolEnd_false (modB_may (HF.out (by unfold mayB; simp only [q1]; simp))) (hbw.trans (HE.out.mono (by omega)))
      cases q2 : withinB pl 0 65535
      · go_wp2_with (first | (go_at_call 53; refine (refIn_any _ _ _ _).mono ?_; rintro e w' ⟨rfl, rfl⟩))
        go_ret
        exact boolEnd_false (modB_may (HF.out (by unfold mayB; simp only [q2]; simp))) (hbw.trans (HE.out.mono (by omega)))
      cases q3 : withinB pd 0 65535
      · go_wp2_with (first | (go_at_call 53; refine (refIn_any _ _ _ _).mono ?_; rintro e w' ⟨rfl, rfl⟩))
        go_ret
        exact boolEnd_false (modB_may (HF.out (by unfold mayB; simp only [q3]; simp))) (hbw.trans (HE.out.mono (by omega)))
      cases q4 : withinB pv 1 16
      · go_wp2_with (first | (go_at_call 53; refine (refIn_any _ _ _ _).mono ?_; rintro e w' ⟨rfl, rfl⟩))
        go_ret
        exact boolEnd_false (modB_may (HF.out (by unfold mayB; simp only [q4]; simp))) (hbw.trans (HE.out.mono (by omega)))
      · go_wp2_with (first | (go_at_call 53; refine (refIn_any _ _ _ _).mono ?_; rintro e w' ⟨rfl, rfl⟩))
        go_roundg (gk - 1)
        case measure => omega
        case rel => exact ⟨k + 1, by omega, by go_num, by rw [HS.out, HA.out]; unfold mayB; simp only [q0, q1, q2, q3, q4]; rfl, HB.out.trans (HE.out.mono (by omega))⟩
    · obtain rfl : k = m.procs.length := by omega
      have HA1 := Lib.hid (show m.procs.all (mayB · m.code.length) = true by have := HA.out; rwa [List.take_length] at this)
      clear HA
      go_wp2_with fail
      go_loopg [7] (m.imports.length) (fun g i wr2 => ∃ k : Nat, k + g = m.imports.length ∧ i = .int .i64 k ∧ (m.imports.take k).all (withinB · 0 (n - 1)) = true ∧ wr2 = wr)
      case atStart => exact ⟨0, by omega, rfl, rfl, rfl⟩
      case round =>
        obtain ⟨k, hk, rfl, hall, rfl⟩ := hrel
        have HA := Lib.hid hall
        clear hall
        by_cases hlt : k < m.imports.length
        · obtain ⟨b, off, hA2, hbl, c0⟩ := Each.at_ (HI.out.imports.later hbw (Nat.le_refl _)) hlt
          have HS := Lib.hid (all_take_succ (withinB · 0 (n - 1)) m.imports k 0 hlt)
          have HF := Lib.hid (all_false_at (withinB · 0 (n - 1)) m.imports k 0 hlt)
          generalize m.imports.getD k 0 = x at *
          obtain ⟨A1, cc1, A2, cc2, A3, cc3⟩ := s
          simp only at hA2 ⊢
          subst hA2
          have hkI : (k : Int) < (m.imports.length : Int) := by omega
          rw [Nat.mul_one] at c0
          cases hq : withinB x 0 (n - 1)
          · go_wp2_with (first | (go_at_call 53; refine (refIn_any _ _ _ _).mono ?_; rintro e w' ⟨rfl, rfl⟩))
            go_ret
            exact boolEnd_false (modB_imp (HF.out hq)) hbw
          · go_wp2_with (first | (go_at_call 53; refine (refIn_any _ _ _ _).mono ?_; rintro e w' ⟨rfl, rfl⟩))
            go_roundg (gk - 1)
            case measure => omega
            case rel => exact ⟨k + 1, by omega, by go_num, by rw [HS.out, HA.out, hq]; rfl, rfl⟩
        · obtain rfl : k = m.imports.length := by omega
          have HA2 := Lib.hid (show m.imports.all (withinB · 0 (n - 1)) = true by have := HA.out; rwa [List.take_length] at this)
          clear HA
          obtain ⟨b, off, hA1, hbl, hP⟩ := Each.at_ (HI.out.procs.later hbw (Nat.le_refl _)) (j := 0) (by omega)
          have HT := Lib.hid (modB_true HH.out HA1.out HA2.out)
          generalize m.procs.getD 0 default = p at *
          simp only [Nat.zero_mul, Nat.add_zero] at hP
          obtain ⟨c0, c1, c2, c3, c4, c5⟩ := hP
          obtain ⟨A1, cc1, A2, cc2, A3, cc3⟩ := s
          simp only at hA1 ⊢
          subst hA1
          obtain ⟨pa, pp, pl, pd, pv, pf⟩ := p
          simp only at c0 c1 c2 c3 c4 c5 HT
          by_cases e1 : pv = 1
          · have d1 : (pv == 1) = true := by simp [e1]
            by_cases e2 : pp = 0
            · have d2 : (pp == 0) = true := by simp [e2]
              have HT2 := Lib.hid (show modB m n = !pf by rw [HT.out]; unfold bodyB; simp [d1, d2])
              clear HT e1 e2
              go_wp2_with fail
              go_ret
              exact boolEnd_of HT2.out.symm hbw
            · have d2 : (pp == 0) = false := by simp [e2]
              have HT2 := Lib.hid (show modB m n = false by rw [HT.out]; unfold bodyB; simp [d2])
              clear HT e1 e2
              go_wp2_with fail
              go_ret
              exact boolEnd_of HT2.out.symm hbw
          · have d1 : (pv == 1) = false := by simp [e1]
            have HT2 := Lib.hid (show modB m n = false by rw [HT.out]; unfold bodyB; simp [d1])
            clear HT e1
            go_wp2_with fail
            go_ret
            exact boolEnd_of HT2.out.symm hbw

theorem refModule_any (s : MS) (m : ModL) (n : Int) (hn : 0 ≤ n) (hn2 : n ≤ 140737488355328) (w : World) (hI : ModIn w s m) :
    Calls Try.prog 52 #[modV s m, .int .i64 n] w (BoolEnd w (modB m n)) := by
  cases h : headB m
  · exact refModule_head s m n w hI.code_le hI.procs_le hI.imports_le hI.init_le h
  · exact refModule_main s m n hn hn2 w hI h
end Go.Proofs.Ytckbfocbainlpaa
