/- mach.module. Condition: what lies in memory can lie there. -/
import Derived.Test.YtckbfocbainlpaaIb
namespace Go.Proofs.Ytckbfocbainlpaa
open Go.RowKit
set_option maxRecDepth 100000

theorem boolEnd_false {w w' : World} {b : Bool} (hb : b = false) (h : Below w.heap.size w w') : BoolEnd w b (.returned (.bool false)) w' := ⟨by rw [hb], h⟩
theorem boolEnd_of {w w' : World} {b c : Bool} (hb : c = b) (h : Below w.heap.size w w') : BoolEnd w b (.returned (.bool c)) w' := ⟨by rw [hb], h⟩
def modCells (s : MS) (m : ModL) : Array Value := #[.string ⟨m.code.toArray⟩, .slice s.A1 m.procs.length s.c1, .slice s.A2 m.imports.length s.c2, .int .i64 m.data, .slice s.A3 m.init.length s.c3]
theorem headB_eq (m : ModL) : headB m = (!decide (65535 < m.code.length) && withinB m.procs.length 1 1024 && !decide (255 < m.imports.length) && withinB m.data m.init.length 65535) := rfl
theorem box5 {w w' : World} {a b c d e : Value} {t : TypeId} (hb : Below (w.heap.size + 1) (w.alloc (.cells #[a, b, c, d, e] t)) w') :
    w'.cell? ⟨w.heap.size, 0, none⟩ = some a ∧ w'.cell? ⟨w.heap.size, 1, none⟩ = some b ∧ w'.cell? ⟨w.heap.size, 2, none⟩ = some c ∧ w'.cell? ⟨w.heap.size, 3, none⟩ = some d ∧ w'.cell? ⟨w.heap.size, 4, none⟩ = some e ∧ Below w.heap.size w w' ∧ w.heap.size < w'.heap.size := by
  have hb' : Below (w.alloc (.cells #[a, b, c, d, e] t)).heap.size (w.alloc (.cells #[a, b, c, d, e] t)) w' := by simpa using hb
  exact ⟨by rw [box_cell hb']; rfl, by rw [box_cell hb']; rfl, by rw [box_cell hb']; rfl, by rw [box_cell hb']; rfl, by rw [box_cell hb']; rfl, (box_below hb').1, (box_below hb').2⟩

set_option maxHeartbeats 1000000 in
theorem module_head (s : MS) (m : ModL) (n : Int) (w : World) (hc : m.code.length ≤ 140737488355328) (hp : m.procs.length ≤ 140737488355328) (hi : m.imports.length ≤ 140737488355328) (ht : m.init.length ≤ 140737488355328) (h : headB m = false) :
    Calls Try.prog 51 #[modV s m, .int .i64 n] w (BoolEnd w (modB m n)) := by
  have HM := Lib.hid (show modB m n = false by unfold modB; rw [h]; simp)
  have HH := Lib.hid h
  clear h
  have HB := Lib.hid (alloc_below w (.cells #[.string ⟨m.code.toArray⟩, .slice s.A1 m.procs.length s.c1, .slice s.A2 m.imports.length s.c2, .int .i64 m.data, .slice s.A3 m.init.length s.c3] 41))
  unfold modV
  by_cases h1 : 65535 < m.code.length
  · go_enter Try.func51, Try.ntmps51
    go_wp2_with (first | (go_at_call 50; refine (within_any _ _ _ _).mono ?_; rintro e w' ⟨rfl, rfl⟩))
    go_ret
    exact boolEnd_false HM.out HB.out
  cases h2 : withinB m.procs.length 1 1024
  · go_enter Try.func51, Try.ntmps51
    go_wp2_with (first | (go_at_call 50; refine (within_any _ _ _ _).mono ?_; rintro e w' ⟨rfl, rfl⟩))
    go_ret
    exact boolEnd_false HM.out HB.out
  by_cases h3 : 255 < m.imports.length
  · go_enter Try.func51, Try.ntmps51
    go_wp2_with (first | (go_at_call 50; refine (within_any _ _ _ _).mono ?_; rintro e w' ⟨rfl, rfl⟩))
    go_ret
    exact boolEnd_false HM.out HB.out
  have h4 : withinB m.data m.init.length 65535 = false := by
    have := HH.out
    rw [headB_eq, h2, decide_eq_false h1, decide_eq_false h3] at this
    simpa using this
  go_enter Try.func51, Try.ntmps51
  go_wp2_with (first | (go_at_call 50; refine (within_any _ _ _ _).mono ?_; rintro e w' ⟨rfl, rfl⟩))
  go_ret
  exact boolEnd_false HM.out HB.out

theorem modB_true {m : ModL} {n : Int} (h1 : headB m = true) (h2 : m.procs.all (mayB · m.code.length) = true) (h3 : m.imports.all (withinB · 0 (n - 1)) = true) : modB m n = bodyB (m.procs.getD 0 default) := by
  unfold modB; rw [h1, h2, h3]; rfl
theorem modB_may {m : ModL} {n : Int} (h : m.procs.all (mayB · m.code.length) = false) : modB m n = false := by
  unfold modB; rw [h]; simp
theorem modB_imp {m : ModL} {n : Int} (h : m.imports.all (withinB · 0 (n - 1)) = false) : modB m n = false := by
  unfold modB; rw [h]; simp

set_option maxHeartbeats 1000000 in
theorem module_main (s : MS) (m : ModL) (n : Int) (hn : 0 ≤ n) (hn2 : n ≤ 140737488355328) (w : World) (hI : ModIn w s m) (h : headB m = true) :
    Calls Try.prog 51 #[modV s m, .int .i64 n] w (BoolEnd w (modB m n)) := by
  have HH := Lib.hid h
  have h' := h
  rw [headB_eq] at h'
  simp only [Bool.and_eq_true, Bool.not_eq_true', decide_eq_false_iff_not] at h'
  obtain ⟨⟨⟨h1, h2⟩, h3⟩, h4⟩ := h'
  have hpl : 1 ≤ m.procs.length ∧ m.procs.length ≤ 1024 := by
    have := h2
    simp [withinB] at this; omega
  obtain ⟨hp1, hp2⟩ := hpl
  have hil := hI.init_le
  have HI := Lib.hid hI
  clear h hI
  unfold modV
  go_enter Try.func51, Try.ntmps51
  go_wp2_with (first | (go_at_call 50; refine (within_any _ _ _ _).mono ?_; rintro e w' ⟨rfl, rfl⟩))
  clear h2 h4
  go_loopg [39] (m.procs.length) (fun g i wr => ∃ k : Nat, k + g = m.procs.length ∧ i = .int .i64 k ∧ (m.procs.take k).all (mayB · m.code.length) = true ∧ Below (w.heap.size + 1) (w.alloc (.cells #[.string ⟨m.code.toArray⟩, .slice s.A1 m.procs.length s.c1, .slice s.A2 m.imports.length s.c2, .int .i64 m.data, .slice s.A3 m.init.length s.c3] 41)) wr)
  case atStart => exact ⟨0, by omega, rfl, rfl, Below.refl _ _⟩
  case round =>
    obtain ⟨k, hk, rfl, hall, hb⟩ := hrel
    have HA := Lib.hid hall
    obtain ⟨b0, b1, b2, b3, b4, hbw, hsz⟩ := box5 hb
    have HB := Lib.hid hb
    clear hall hb
    by_cases hlt : k < m.procs.length
    · obtain ⟨b, off, hA1, hbl, hP⟩ := Each.at_ (HI.out.procs.later hbw (Nat.le_refl _)) hlt
      have HS := Lib.hid (all_take_succ (mayB · m.code.length) m.procs k default hlt)
      have HF := Lib.hid (all_false_at (mayB · m.code.length) m.procs k default hlt)
      generalize m.procs.getD k default = p at *
      obtain ⟨c0, c1, c2, c3, c4, c5⟩ := hP
      obtain ⟨A1, cc1, A2, cc2, A3, cc3⟩ := s
      simp only at hA1 ⊢
      subst hA1
      have hkI : (k : Int) < (m.procs.length : Int) := by omega
      go_wp2_with fail
      refine (may_any p ⟨_, cc1, A2, cc2, A3, cc3⟩ m (by omega) _).mono ?_
      rintro e w5 ⟨rfl, hb5⟩
      obtain ⟨hb6, hz6⟩ := box_below hb5
      have hb7 := HB.out.trans (hb6.mono (by omega))
      clear hb5 c0 c1 c2 c3 c4 c5 b0 b1 b2 b3 b4
      cases hq : mayB p m.code.length
      · go_wp2_with fail
        go_ret
        exact boolEnd_false (modB_may (HF.out hq)) (hbw.trans (hb6.mono (by omega)))
      · go_wp2_with fail
        go_roundg (gk - 1)
        case measure => omega
        case rel => exact ⟨k + 1, by omega, by go_num, by rw [HS.out, HA.out, hq]; rfl, hb7⟩
    · obtain rfl : k = m.procs.length := by omega
      have HA1 := Lib.hid (show m.procs.all (mayB · m.code.length) = true by have := HA.out; rwa [List.take_length] at this)
      clear HA
      go_wp2_with fail
      go_loopg [51] (m.imports.length) (fun g i wr2 => ∃ k : Nat, k + g = m.imports.length ∧ i = .int .i64 k ∧ (m.imports.take k).all (withinB · 0 (n - 1)) = true ∧ wr2 = wr)
      case atStart => exact ⟨0, by omega, rfl, rfl, rfl⟩
      case round =>
        obtain ⟨k, hk, rfl, hall, rfl⟩ := hrel
        have HA := Lib.hid hall
        clear hall
        by_cases hlt : k < m.imports.length
        · obtain ⟨b, off, hA2, hbl, c0⟩ := Each.at_ (HI.out.imports.later hbw (Nat.le_refl _)) hlt
          have HS := Lib.hid (all_take_succ (withinB · 0 (n - 1)) m.imports k 0 hlt)
          have HF := Lib.hid (all_false_at (withinB · 0 (n - 1)) m.imports k 0 hlt)
          generalize m.imports.getD k 0 = x at *
          obtain ⟨A1, cc1, A2, cc2, A3, cc3⟩ := s
          simp only at hA2 ⊢
          subst hA2
          have hkI : (k : Int) < (m.imports.length : Int) := by omega
          rw [Nat.mul_one] at c0
          cases hq : withinB x 0 (n - 1)
          · go_wp2_with (first | (go_at_call 50; refine (within_any _ _ _ _).mono ?_; rintro e w' ⟨rfl, rfl⟩))
            go_ret
            exact boolEnd_false (modB_imp (HF.out hq)) hbw
          · go_wp2_with (first | (go_at_call 50; refine (within_any _ _ _ _).mono ?_; rintro e w' ⟨rfl, rfl⟩))
            go_roundg (gk - 1)
            case measure => omega
            case rel => exact ⟨k + 1, by omega, by go_num, by rw [HS.out, HA.out, hq]; rfl, rfl⟩
        · obtain rfl : k = m.imports.length := by omega
          have HA2 := Lib.hid (show m.imports.all (withinB · 0 (n - 1)) = true by have := HA.out; rwa [List.take_length] at this)
          clear HA
          obtain ⟨b, off, hA1, hbl, hP⟩ := Each.at_ (HI.out.procs.later hbw (Nat.le_refl _)) (j := 0) (by omega)
          have HT := Lib.hid (modB_true HH.out HA1.out HA2.out)
          generalize m.procs.getD 0 default = p at *
          simp only [Nat.zero_mul, Nat.add_zero] at hP
          obtain ⟨c0, c1, c2, c3, c4, c5⟩ := hP
          obtain ⟨A1, cc1, A2, cc2, A3, cc3⟩ := s
          simp only at hA1 ⊢
          subst hA1
          have HE := Lib.hid (hbw.trans ((alloc_below wr (.cells #[.int .i64 p.at_, .int .i64 p.params, .int .i64 p.locals, .int .i64 p.depth, .int .i64 p.level, .bool p.fn] 90)).mono (by omega)))
          obtain ⟨pa, pp, pl, pd, pv, pf⟩ := p
          simp only at c0 c1 c2 c3 c4 c5 HE HT
          by_cases e1 : pv = 1
          · have d1 : (pv == 1) = true := by simp [e1]
            by_cases e2 : pp = 0
            · have d2 : (pp == 0) = true := by simp [e2]
              have HT2 := Lib.hid (show modB m n = !pf by rw [HT.out]; unfold bodyB; simp [d1, d2])
              clear HT e1 e2
              go_wp2_with fail
              go_ret
              exact boolEnd_of HT2.out.symm HE.out
            · have d2 : (pp == 0) = false := by simp [e2]
              have HT2 := Lib.hid (show modB m n = false by rw [HT.out]; unfold bodyB; simp [d2])
              clear HT e1 e2
              go_wp2_with fail
              go_ret
              exact boolEnd_of HT2.out.symm HE.out
          · have d1 : (pv == 1) = false := by simp [e1]
            have HT2 := Lib.hid (show modB m n = false by rw [HT.out]; unfold bodyB; simp [d1])
            clear HT e1
            go_wp2_with fail
            go_ret
            exact boolEnd_of HT2.out.symm HE.out

theorem module_any (s : MS) (m : ModL) (n : Int) (hn : 0 ≤ n) (hn2 : n ≤ 140737488355328) (w : World) (hI : ModIn w s m) :
    Calls Try.prog 51 #[modV s m, .int .i64 n] w (BoolEnd w (modB m n)) := by
  cases h : headB m
  · exact module_head s m n w hI.code_le hI.procs_le hI.imports_le hI.init_le h
  · exact module_main s m n hn hn2 w hI h
end Go.Proofs.Ytckbfocbainlpaa
