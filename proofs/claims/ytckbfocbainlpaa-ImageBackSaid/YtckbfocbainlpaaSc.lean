/- slices.EqualFunc at modules, image.Same. Condition: what lies in memory can lie there. -/
import Derived.Test.YtckbfocbainlpaaSb
namespace Go.Proofs.Ytckbfocbainlpaa
open Go.RowKit
set_option maxRecDepth 100000

theorem img_ne {i j : ImgL} (h : i.names ≠ j.names ∨ i.mods ≠ j.mods ∨ i.order ≠ j.order) : decide (i = j) = false := decide_eq_false fun e => by
  subst e
  rcases h with h | h | h <;> exact h rfl
set_option maxHeartbeats 2000000 in
theorem eqMods (A1 A2 : Option Addr) (c d : Nat) (xs ys : List ModL) (hx : xs.length ≤ 140737488355328) (hy : ys.length ≤ 140737488355328) (w : World) (h1 : Mods w A1 xs) (h2 : Mods w A2 ys) :
    Calls Try.prog 35 #[.slice A1 xs.length c, .slice A2 ys.length d, .func (.func 32) #[] #[]] w (BoolEnd w (decide (xs = ys))) := by
  have H1 := Lib.hid h1
  have H2 := Lib.hid h2
  clear h1 h2
  by_cases hl : xs.length = ys.length
  case neg =>
    have HX := Lib.hid (ne_of_len hl)
    have d1 : ((xs.length : Int) == (ys.length : Int)) = false := by simp; omega
    have d2 : (xs.length == ys.length) = false := by simpa using hl
    have d3 : ((xs.length : Int) != (ys.length : Int)) = true := by simp; omega
    clear hl
    go_enter Try.func35, Try.ntmps35
    go_wp2_with fail
    go_ret
    exact boolEnd_false HX.out (Below.refl _ _)
  have d1 : ((xs.length : Int) == (ys.length : Int)) = true := by simp; omega
  have d2 : (xs.length == ys.length) = true := by simpa using hl
  have d3 : ((xs.length : Int) != (ys.length : Int)) = false := by simp; omega
  have HL := Lib.hid hl
  clear hl
  go_enter Try.func35, Try.ntmps35
  go_wp2_with fail
  clear d1 d2 d3
  go_loopg [17] (xs.length) (fun g i wr => ∃ k : Nat, k + g = xs.length ∧ i = .int .i64 k ∧ xs.take k = ys.take k ∧ Below w.heap.size w wr)
  case atStart => exact ⟨0, by omega, rfl, rfl, Below.refl _ _⟩
  case round =>
    obtain ⟨k, hk, rfl, hall, hb⟩ := hrel
    have HA := Lib.hid hall
    have HB := Lib.hid hb
    clear hall
    by_cases hlt : k < xs.length
    · have hlt2 : k < ys.length := by have := HL.out; omega
      obtain ⟨b1, o1, hA1, hbl1, s1, hM1, c0, c1, c2, c3, c4⟩ := Each.at_ (H1.out.later hb (Nat.le_refl _)) hlt
      obtain ⟨b2, o2, hA2, hbl2, s2, hM2, e0, e1, e2, e3, e4⟩ := Each.at_ (H2.out.later hb (Nat.le_refl _)) hlt2
      have HM1 := Lib.hid hM1
      have HM2 := Lib.hid hM2
      have HS := Lib.hid (fun he => eq_take_succ (xs := xs) (ys := ys) k default hlt hlt2 HA.out he)
      have HN := Lib.hid (fun he => ne_at (xs := xs) (ys := ys) k default he)
      clear hM1 hM2 hb
      subst hA1 hA2
      have hkI : (k : Int) < (xs.length : Int) := by omega
      have hkI2 : (k : Int) < (ys.length : Int) := by omega
      generalize xs.getD k default = x at *
      generalize ys.getD k default = y at *
      have HW := Lib.hid (show Below wr.heap.size wr ((wr.alloc (.cells (modCells s1 x) 41)).alloc (.cells (modCells s2 y) 41)) from ((Below.refl _ _).alloc (Nat.le_refl _) _).alloc (by simp) _)
      go_wp2_with fail
      refine (same1_any s1 s2 x y _ (HM1.out.later HW.out (Nat.le_refl _)) (HM2.out.later HW.out (Nat.le_refl _))).mono ?_
      rintro e w5 ⟨rfl, hb5⟩
      have HB5 := Lib.hid (HB.out.trans ((HW.out.trans (hb5.mono HW.out.size)).mono HB.out.size))
      clear hb5 c0 c1 c2 c3 c4 e0 e1 e2 e3 e4
      by_cases hxy : x = y
      · have HS2 := Lib.hid (HS.out hxy)
        rw [decide_eq_true hxy]
        clear hxy
        go_wp2_with fail
        go_roundg (gk - 1)
        case measure => omega
        case rel => exact ⟨k + 1, by omega, by go_num, HS2.out, HB5.out⟩
      · have HX := Lib.hid (HN.out hxy)
        rw [decide_eq_false hxy]
        clear hxy
        go_wp2_with fail
        go_ret
        exact boolEnd_false HX.out HB5.out
    · obtain rfl : k = xs.length := by omega
      have HX := Lib.hid (eq_full HL.out HA.out)
      clear hb
      go_wp2_with fail
      go_ret
      exact boolEnd_of HX.out.symm HB.out
set_option maxHeartbeats 2000000 in
theorem imgSame_any (s t : IS) (i j : ImgL) (w : World) (hI : ImgIn w s i) (hJ : ImgIn w t j) : Calls Try.prog 13 #[imgV s i, imgV t j] w (BoolEnd w (decide (i = j))) := by
  have HI := Lib.hid hI
  have HJ := Lib.hid hJ
  have hi1 := hI.names_le
  have hi2 := hI.mods_le
  have hi3 := hI.order_le
  have hj1 := hJ.names_le
  have hj2 := hJ.mods_le
  have hj3 := hJ.order_le
  have HT := Lib.hid (Two.new w (imgCells s i) (imgCells t j) 28 (by decide))
  clear hI hJ
  obtain ⟨ns, ms, os⟩ := i
  obtain ⟨ns', ms', os'⟩ := j
  unfold imgV
  simp only at hi1 hi2 hi3 hj1 hj2 hj3 ⊢
  go_enter Try.func13, Try.ntmps13
  go_wp2_with fail
  refine (eqStrs s.A1 t.A1 s.c1 t.c1 ns ns' hi1 hj1 _ (HI.out.names.later HT.out.old (Nat.le_refl _)) (HJ.out.names.later HT.out.old (Nat.le_refl _))).mono ?_
  rintro e w2 ⟨rfl, hb2⟩
  have HT2 := Lib.hid (HT.out.grow hb2)
  clear hb2 HT
  have b1 := HT2.out.c 1 (.slice s.A2 ms.length s.c2) rfl
  have b2 := HT2.out.c 2 (.slice s.A3 os.length s.c3) rfl
  have e1 := HT2.out.d 1 (.slice t.A2 ms'.length t.c2) rfl
  have e2 := HT2.out.d 2 (.slice t.A3 os'.length t.c3) rfl
  by_cases h2 : ns = ns'
  case neg =>
    have HX := Lib.hid (img_ne (i := ⟨ns, ms, os⟩) (j := ⟨ns', ms', os'⟩) (.inl h2))
    rw [decide_eq_false h2]
    clear h2
    go_wp2_with fail
    go_ret
    exact boolEnd_false HX.out HT2.out.old
  rw [decide_eq_true h2]
  subst h2
  go_wp2_with fail
  refine (eqMods s.A2 t.A2 s.c2 t.c2 ms ms' hi2 hj2 _ (HI.out.mods.later HT2.out.old (Nat.le_refl _)) (HJ.out.mods.later HT2.out.old (Nat.le_refl _))).mono ?_
  rintro e w3 ⟨rfl, hb3⟩
  have HT3 := Lib.hid (HT2.out.grow hb3)
  clear hb3 HT2 b1 b2 e1 e2
  have b2 := HT3.out.c 2 (.slice s.A3 os.length s.c3) rfl
  have e2 := HT3.out.d 2 (.slice t.A3 os'.length t.c3) rfl
  by_cases h3 : ms = ms'
  case neg =>
    have HX := Lib.hid (img_ne (i := ⟨ns, ms, os⟩) (j := ⟨ns, ms', os'⟩) (.inr (.inl h3)))
    rw [decide_eq_false h3]
    clear h3
    go_wp2_with fail
    go_ret
    exact boolEnd_false HX.out HT3.out.old
  rw [decide_eq_true h3]
  subst h3
  go_wp2_with fail
  refine (eqInts s.A3 t.A3 s.c3 t.c3 os os' hi3 hj3 _ (HI.out.order.later HT3.out.old (Nat.le_refl _)) (HJ.out.order.later HT3.out.old (Nat.le_refl _))).mono ?_
  rintro e w4 ⟨rfl, hb4⟩
  have HT4 := Lib.hid (HT3.out.grow hb4)
  clear hb4 HT3 b2 e2
  have HX := Lib.hid (show decide ((⟨ns, ms, os⟩ : ImgL) = ⟨ns, ms, os'⟩) = decide (os = os') by simp)
  generalize decide (os = os') = dd at *
  go_wp2_with fail
  go_ret
  exact boolEnd_of HX.out.symm HT4.out.old
end Go.Proofs.Ytckbfocbainlpaa
