/- slices.Equal at the element types of this seat. Condition: what lies in memory can lie there. (Printed by gen_sa.py.) -/
import Derived.Test.YtckbfocbainlpaaEc
namespace Go.Proofs.Ytckbfocbainlpaa
open Go.RowKit
set_option maxRecDepth 100000

theorem ne_of_len {α : Type} [DecidableEq α] {xs ys : List α} (h : xs.length ≠ ys.length) : decide (xs = ys) = false := decide_eq_false fun e => h (by rw [e])
theorem ne_at {α : Type} [DecidableEq α] {xs ys : List α} (k : Nat) (d : α) (h : xs.getD k d ≠ ys.getD k d) : decide (xs = ys) = false := decide_eq_false fun e => h (by rw [e])
theorem eq_take_succ {α : Type} {xs ys : List α} (k : Nat) (d : α) (h1 : k < xs.length) (h2 : k < ys.length) (h : xs.take k = ys.take k) (he : xs.getD k d = ys.getD k d) : xs.take (k + 1) = ys.take (k + 1) := by
  have e : xs[k] = ys[k] := by simpa [List.getD_eq_getElem?_getD, h1, h2] using he
  rw [List.take_succ_eq_append_getElem h1, List.take_succ_eq_append_getElem h2, h, e]
theorem eq_full {α : Type} [DecidableEq α] {xs ys : List α} (hl : xs.length = ys.length) (h : xs.take xs.length = ys.take xs.length) : decide (xs = ys) = true := by
  rw [List.take_length, hl, List.take_length] at h; exact decide_eq_true h


set_option maxHeartbeats 2000000 in
theorem eqStrs (A1 A2 : Option Addr) (c d : Nat) (xs ys : List (List UInt8)) (hx : xs.length ≤ 140737488355328) (hy : ys.length ≤ 140737488355328) (w : World) (h1 : Strs w A1 xs) (h2 : Strs w A2 ys) :
    Calls Try.prog 34 #[.slice A1 xs.length c, .slice A2 ys.length d] w (BoolEnd w (decide (xs = ys))) := by
  have H1 := Lib.hid h1
  have H2 := Lib.hid h2
  clear h1 h2
  by_cases hl : xs.length = ys.length
  case neg =>
    have HX := Lib.hid (ne_of_len hl)
    have d1 : ((xs.length : Int) == (ys.length : Int)) = false := by simp; omega
    have d2 : (xs.length == ys.length) = false := by simpa using hl
    have d3 : ((xs.length : Int) != (ys.length : Int)) = true := by simp; omega
    clear hl
    go_enter Try.func34, Try.ntmps34
    go_wp2_with fail
    go_ret
    exact boolEnd_false HX.out (Below.refl _ _)
  have d1 : ((xs.length : Int) == (ys.length : Int)) = true := by simp; omega
  have d2 : (xs.length == ys.length) = true := by simpa using hl
  have d3 : ((xs.length : Int) != (ys.length : Int)) = false := by simp; omega
  have HL := Lib.hid hl
  clear hl
  go_enter Try.func34, Try.ntmps34
  go_wp2_with fail
  clear d1 d2 d3
  go_loopg [13] (xs.length) (fun g i wr => ∃ k : Nat, k + g = xs.length ∧ i = .int .i64 k ∧ xs.take k = ys.take k ∧ ∃ q, wr = w.drewN q)
  case atStart => exact ⟨0, by omega, rfl, rfl, 0, rfl⟩
  case round =>
    obtain ⟨k, hk, rfl, hall, q, rfl⟩ := hrel
    have HA := Lib.hid hall
    clear hall
    by_cases hlt : k < xs.length
    · have hlt2 : k < ys.length := by have := HL.out; omega
      obtain ⟨b1, o1, hA1, hbl1, c0⟩ := Each.at_ H1.out hlt
      obtain ⟨b2, o2, hA2, hbl2, e0⟩ := Each.at_ H2.out hlt2
      have HS := Lib.hid (fun he => eq_take_succ (xs := xs) (ys := ys) k [] hlt hlt2 HA.out he)
      have HN := Lib.hid (fun he => ne_at (xs := xs) (ys := ys) k [] he)
      subst hA1 hA2
      have hkI : (k : Int) < (xs.length : Int) := by omega
      have hkI2 : (k : Int) < (ys.length : Int) := by omega
      generalize xs.getD k [] = x at *
      generalize ys.getD k [] = y at *
      obtain ⟨c0, _⟩ := c0
      obtain ⟨e0, _⟩ := e0
      rw [Nat.mul_one] at c0 e0
      by_cases hxy : x = y
      · subst hxy
        go_wp2_with fail
        go_quiet (fail)
        go_wp2_with fail
        go_roundg (gk - 1)
        case measure => omega
        case rel => exact ⟨k + 1, by omega, by go_num, HS.out (by first | rfl | trivial), _, rfl⟩
      · have HX := Lib.hid (HN.out hxy)
        have f1 : (x == y) = false := by simp [hxy]
        have f2 : decide (x = y) = false := by simp [hxy]
        have f3 : (x != y) = true := by simp [hxy]
        clear hxy
        all_goals
          go_wp2_with fail
          go_quiet (fail)
          go_wp2_with fail
          go_ret
          exact boolEnd_false HX.out (below_drawn (below_drawn (Below.refl _ _) _) _)
    · obtain rfl : k = xs.length := by omega
      have HX := Lib.hid (eq_full HL.out HA.out)
      go_wp2_with fail
      go_ret
      exact boolEnd_of HX.out.symm (below_drawn (Below.refl _ _) _)

set_option maxHeartbeats 2000000 in
theorem eqInts (A1 A2 : Option Addr) (c d : Nat) (xs ys : List Int) (hx : xs.length ≤ 140737488355328) (hy : ys.length ≤ 140737488355328) (w : World) (h1 : Ints w A1 xs) (h2 : Ints w A2 ys) :
    Calls Try.prog 36 #[.slice A1 xs.length c, .slice A2 ys.length d] w (BoolEnd w (decide (xs = ys))) := by
  have H1 := Lib.hid h1
  have H2 := Lib.hid h2
  clear h1 h2
  by_cases hl : xs.length = ys.length
  case neg =>
    have HX := Lib.hid (ne_of_len hl)
    have d1 : ((xs.length : Int) == (ys.length : Int)) = false := by simp; omega
    have d2 : (xs.length == ys.length) = false := by simpa using hl
    have d3 : ((xs.length : Int) != (ys.length : Int)) = true := by simp; omega
    clear hl
    go_enter Try.func36, Try.ntmps36
    go_wp2_with fail
    go_ret
    exact boolEnd_false HX.out (Below.refl _ _)
  have d1 : ((xs.length : Int) == (ys.length : Int)) = true := by simp; omega
  have d2 : (xs.length == ys.length) = true := by simpa using hl
  have d3 : ((xs.length : Int) != (ys.length : Int)) = false := by simp; omega
  have HL := Lib.hid hl
  clear hl
  go_enter Try.func36, Try.ntmps36
  go_wp2_with fail
  clear d1 d2 d3
  go_loopg [13] (xs.length) (fun g i wr => ∃ k : Nat, k + g = xs.length ∧ i = .int .i64 k ∧ xs.take k = ys.take k ∧ ∃ q, wr = w.drewN q)
  case atStart => exact ⟨0, by omega, rfl, rfl, 0, rfl⟩
  case round =>
    obtain ⟨k, hk, rfl, hall, q, rfl⟩ := hrel
    have HA := Lib.hid hall
    clear hall
    by_cases hlt : k < xs.length
    · have hlt2 : k < ys.length := by have := HL.out; omega
      obtain ⟨b1, o1, hA1, hbl1, c0⟩ := Each.at_ H1.out hlt
      obtain ⟨b2, o2, hA2, hbl2, e0⟩ := Each.at_ H2.out hlt2
      have HS := Lib.hid (fun he => eq_take_succ (xs := xs) (ys := ys) k 0 hlt hlt2 HA.out he)
      have HN := Lib.hid (fun he => ne_at (xs := xs) (ys := ys) k 0 he)
      subst hA1 hA2
      have hkI : (k : Int) < (xs.length : Int) := by omega
      have hkI2 : (k : Int) < (ys.length : Int) := by omega
      generalize xs.getD k 0 = x at *
      generalize ys.getD k 0 = y at *
      rw [Nat.mul_one] at c0 e0
      by_cases hxy : x = y
      · subst hxy
        go_wp2_with fail
        go_quiet (fail)
        go_wp2_with fail
        go_roundg (gk - 1)
        case measure => omega
        case rel => exact ⟨k + 1, by omega, by go_num, HS.out (by first | rfl | trivial), _, rfl⟩
      · have HX := Lib.hid (HN.out hxy)
        have f1 : (x == y) = false := by simp [hxy]
        have f2 : decide (x = y) = false := by simp [hxy]
        have f3 : (x != y) = true := by simp [hxy]
        clear hxy
        all_goals
          go_wp2_with fail
          go_quiet (fail)
          go_wp2_with fail
          go_ret
          exact boolEnd_false HX.out (below_drawn (below_drawn (Below.refl _ _) _) _)
    · obtain rfl : k = xs.length := by omega
      have HX := Lib.hid (eq_full HL.out HA.out)
      go_wp2_with fail
      go_ret
      exact boolEnd_of HX.out.symm (below_drawn (Below.refl _ _) _)

set_option maxHeartbeats 2000000 in
theorem eqWords (A1 A2 : Option Addr) (c d : Nat) (xs ys : List Nat) (hx : xs.length ≤ 140737488355328) (hy : ys.length ≤ 140737488355328) (w : World) (h1 : Words w A1 xs) (h2 : Words w A2 ys) :
    Calls Try.prog 63 #[.slice A1 xs.length c, .slice A2 ys.length d] w (BoolEnd w (decide (xs = ys))) := by
  have H1 := Lib.hid h1
  have H2 := Lib.hid h2
  clear h1 h2
  by_cases hl : xs.length = ys.length
  case neg =>
    have HX := Lib.hid (ne_of_len hl)
    have d1 : ((xs.length : Int) == (ys.length : Int)) = false := by simp; omega
    have d2 : (xs.length == ys.length) = false := by simpa using hl
    have d3 : ((xs.length : Int) != (ys.length : Int)) = true := by simp; omega
    clear hl
    go_enter Try.func63, Try.ntmps63
    go_wp2_with fail
    go_ret
    exact boolEnd_false HX.out (Below.refl _ _)
  have d1 : ((xs.length : Int) == (ys.length : Int)) = true := by simp; omega
  have d2 : (xs.length == ys.length) = true := by simpa using hl
  have d3 : ((xs.length : Int) != (ys.length : Int)) = false := by simp; omega
  have HL := Lib.hid hl
  clear hl
  go_enter Try.func63, Try.ntmps63
  go_wp2_with fail
  clear d1 d2 d3
  go_loopg [13] (xs.length) (fun g i wr => ∃ k : Nat, k + g = xs.length ∧ i = .int .i64 k ∧ xs.take k = ys.take k ∧ ∃ q, wr = w.drewN q)
  case atStart => exact ⟨0, by omega, rfl, rfl, 0, rfl⟩
  case round =>
    obtain ⟨k, hk, rfl, hall, q, rfl⟩ := hrel
    have HA := Lib.hid hall
    clear hall
    by_cases hlt : k < xs.length
    · have hlt2 : k < ys.length := by have := HL.out; omega
      obtain ⟨b1, o1, hA1, hbl1, c0⟩ := Each.at_ H1.out hlt
      obtain ⟨b2, o2, hA2, hbl2, e0⟩ := Each.at_ H2.out hlt2
      have HS := Lib.hid (fun he => eq_take_succ (xs := xs) (ys := ys) k 0 hlt hlt2 HA.out he)
      have HN := Lib.hid (fun he => ne_at (xs := xs) (ys := ys) k 0 he)
      subst hA1 hA2
      have hkI : (k : Int) < (xs.length : Int) := by omega
      have hkI2 : (k : Int) < (ys.length : Int) := by omega
      generalize xs.getD k 0 = x at *
      generalize ys.getD k 0 = y at *
      obtain ⟨c0, _⟩ := c0
      obtain ⟨e0, _⟩ := e0
      rw [Nat.mul_one] at c0 e0
      by_cases hxy : x = y
      · subst hxy
        go_wp2_with fail
        go_quiet (fail)
        go_wp2_with fail
        go_roundg (gk - 1)
        case measure => omega
        case rel => exact ⟨k + 1, by omega, by go_num, HS.out (by first | rfl | trivial), _, rfl⟩
      · have HX := Lib.hid (HN.out hxy)
        have f1 : ((x : Int) == (y : Int)) = false := by simp; omega
        have f2 : (x == y) = false := by simp [hxy]
        have f3 : ((x : Int) != (y : Int)) = true := by simp; omega
        clear hxy
        all_goals
          go_wp2_with fail
          go_quiet (fail)
          go_wp2_with fail
          go_ret
          exact boolEnd_false HX.out (below_drawn (below_drawn (Below.refl _ _) _) _)
    · obtain rfl : k = xs.length := by omega
      have HX := Lib.hid (eq_full HL.out HA.out)
      go_wp2_with fail
      go_ret
      exact boolEnd_of HX.out.symm (below_drawn (Below.refl _ _) _)

set_option maxHeartbeats 2000000 in
theorem eqProcs (A1 A2 : Option Addr) (c d : Nat) (xs ys : List ProcL) (hx : xs.length ≤ 140737488355328) (hy : ys.length ≤ 140737488355328) (w : World) (h1 : Procs w A1 xs) (h2 : Procs w A2 ys) :
    Calls Try.prog 62 #[.slice A1 xs.length c, .slice A2 ys.length d] w (BoolEnd w (decide (xs = ys))) := by
  have H1 := Lib.hid h1
  have H2 := Lib.hid h2
  clear h1 h2
  by_cases hl : xs.length = ys.length
  case neg =>
    have HX := Lib.hid (ne_of_len hl)
    have d1 : ((xs.length : Int) == (ys.length : Int)) = false := by simp; omega
    have d2 : (xs.length == ys.length) = false := by simpa using hl
    have d3 : ((xs.length : Int) != (ys.length : Int)) = true := by simp; omega
    clear hl
    go_enter Try.func62, Try.ntmps62
    go_wp2_with fail
    go_ret
    exact boolEnd_false HX.out (Below.refl _ _)
  have d1 : ((xs.length : Int) == (ys.length : Int)) = true := by simp; omega
  have d2 : (xs.length == ys.length) = true := by simpa using hl
  have d3 : ((xs.length : Int) != (ys.length : Int)) = false := by simp; omega
  have HL := Lib.hid hl
  clear hl
  go_enter Try.func62, Try.ntmps62
  go_wp2_with fail
  clear d1 d2 d3
  go_loopg [13] (xs.length) (fun g i wr => ∃ k : Nat, k + g = xs.length ∧ i = .int .i64 k ∧ xs.take k = ys.take k ∧ ∃ q, wr = w.drewN q)
  case atStart => exact ⟨0, by omega, rfl, rfl, 0, rfl⟩
  case round =>
    obtain ⟨k, hk, rfl, hall, q, rfl⟩ := hrel
    have HA := Lib.hid hall
    clear hall
    by_cases hlt : k < xs.length
    · have hlt2 : k < ys.length := by have := HL.out; omega
      obtain ⟨b1, o1, hA1, hbl1, c0⟩ := Each.at_ H1.out hlt
      obtain ⟨b2, o2, hA2, hbl2, e0⟩ := Each.at_ H2.out hlt2
      have HS := Lib.hid (fun he => eq_take_succ (xs := xs) (ys := ys) k default hlt hlt2 HA.out he)
      have HN := Lib.hid (fun he => ne_at (xs := xs) (ys := ys) k default he)
      subst hA1 hA2
      have hkI : (k : Int) < (xs.length : Int) := by omega
      have hkI2 : (k : Int) < (ys.length : Int) := by omega
      generalize xs.getD k default = x at *
      generalize ys.getD k default = y at *
      obtain ⟨c0, c1, c2, c3, c4, c5⟩ := c0
      obtain ⟨e0, e1, e2, e3, e4, e5⟩ := e0
      by_cases hxy : x = y
      · subst hxy
        go_wp2_with fail
        go_quiet (fail)
        go_wp2_with fail
        go_roundg (gk - 1)
        case measure => omega
        case rel => exact ⟨k + 1, by omega, by go_num, HS.out (by first | rfl | trivial), _, rfl⟩
      · have HX := Lib.hid (HN.out hxy)
        obtain ⟨xa, xp, xl, xd, xv, xf⟩ := x
        obtain ⟨ya, yp, yl, yd, yv, yf⟩ := y
        simp only at c0 c1 c2 c3 c4 c5 e0 e1 e2 e3 e4 e5
        have HD : (xa == ya) = false ∨ (xa = ya ∧ (xp == yp) = false) ∨ (xa = ya ∧ xp = yp ∧ (xl == yl) = false) ∨ (xa = ya ∧ xp = yp ∧ xl = yl ∧ (xd == yd) = false) ∨ (xa = ya ∧ xp = yp ∧ xl = yl ∧ xd = yd ∧ (xv == yv) = false) ∨ (xa = ya ∧ xp = yp ∧ xl = yl ∧ xd = yd ∧ xv = yv ∧ (xf == yf) = false) := by
          simp only [beq_eq_false_iff_ne, ne_eq]
          by_cases g1 : xa = ya
          · by_cases g2 : xp = yp
            · by_cases g3 : xl = yl
              · by_cases g4 : xd = yd
                · by_cases g5 : xv = yv
                  · exact .inr (.inr (.inr (.inr (.inr ⟨g1, g2, g3, g4, g5, fun g6 => hxy (by rw [g1, g2, g3, g4, g5, g6])⟩))))
                  · exact .inr (.inr (.inr (.inr (.inl ⟨g1, g2, g3, g4, g5⟩))))
                · exact .inr (.inr (.inr (.inl ⟨g1, g2, g3, g4⟩)))
              · exact .inr (.inr (.inl ⟨g1, g2, g3⟩))
            · exact .inr (.inl ⟨g1, g2⟩)
          · exact .inl g1
        have HXY := Lib.hid hxy
        rcases HD with f1 | ⟨rfl, f1⟩ | ⟨rfl, rfl, f1⟩ | ⟨rfl, rfl, rfl, f1⟩ | ⟨rfl, rfl, rfl, rfl, f1⟩ | ⟨rfl, rfl, rfl, rfl, rfl, f1⟩
        all_goals clear HXY hxy
        all_goals
          go_wp2_with fail
          go_quiet (fail)
          go_wp2_with fail
          go_ret
          exact boolEnd_false HX.out (below_drawn (below_drawn (Below.refl _ _) _) _)
    · obtain rfl : k = xs.length := by omega
      have HX := Lib.hid (eq_full HL.out HA.out)
      go_wp2_with fail
      go_ret
      exact boolEnd_of HX.out.symm (below_drawn (Below.refl _ _) _)
end Go.Proofs.Ytckbfocbainlpaa
