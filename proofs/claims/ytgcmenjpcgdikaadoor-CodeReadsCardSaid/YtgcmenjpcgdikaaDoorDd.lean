/- separatumlaw16.CodeReads: for every bytes and every place it answers true. Condition: what lies in memory can lie there. -/
import Derived.Test.YtgcmenjpcgdikaaDoorRg
import Derived.Test.YtgcmenjpcgdikaaDoorCr
import Derived.Test.YtgcmenjpcgdikaaDoorPt
namespace Go.Proofs.YtgcmenjpcgdikaaDoor
open Go.RowKit
set_option maxRecDepth 100000

theorem decode_few (s : List UInt8) (at_ : Int) : (decodeL s at_).1.2.length ≤ 769 := by
  unfold decodeL
  split
  · simp
  · split
    · simp
    · split
      · simp
      · show (stAt _ _ _ _).args.length ≤ 769
        rw [st_len]; exact end_few _ _ _
theorem places_len (s : List UInt8) : ∀ (f a : Nat), (allGo s f a).2.1.length ≤ f
  | 0, _ => by simp [allGo]
  | f + 1, a => by
    rw [allGo_succ]
    split
    · split
      · simp
      · split
        · simp
        · have := places_len s f (decodeL s a).2.1.toNat
          simp only [List.length_cons]; omega
    · simp
theorem places_len' (s : List UInt8) : (allL s).2.1.length ≤ s.length + 1 := by
  unfold allL
  split
  · simp
  · exact places_len s _ _

set_option maxHeartbeats 2000000 in
theorem codeReads_any (s : List UInt8) (hs : s.length ≤ 9223372036854775807) (at_ : Int) (w : World) (ht : Tab w) :
    Calls Tryd.prog 3 #[.string ⟨s.toArray⟩, .int .i64 at_] w fun e w' => e = .returned (.bool true) ∧ Below w.heap.size w w' := by
  by_cases h0 : 2048 < s.length
  · have g0 : decide ((2048 : Int) < (s.length : Int)) = true := by simp; omega
    go_enter Tryd.func3, Tryd.ntmps3
    go_wp2_with fail
    refine (alive_any _ ht).mono ?_
    rintro e w9 ⟨rfl, hb9⟩
    go_wp2_with fail
    go_ret
    exact ⟨rfl, hb9⟩
  · have g0 : decide ((2048 : Int) < (s.length : Int)) = false := by simp; omega
    have hdf := decode_few s at_
    have hal := all_len' s
    have hpl := places_len' s
    generalize hdd : decodeL s at_ = d at *
    have HDD := Lib.hid hdd
    clear hdd
    obtain ⟨⟨n, args⟩, nx, er⟩ := d
    simp only at hdf
    go_enter Tryd.func3, Tryd.ntmps3
    go_wp2_with fail
    refine (decode_any s (by omega) at_ _ ht).mono ?_
    rw [HDD.out]
    rintro e w1 ⟨v1, rfl, hv1, hb1⟩
    obtain ⟨A, ca, rfl, hA⟩ := ints_own hv1
    simp only at hA ⊢
    have hbx : Below w1.heap.size w1 (w1.alloc (.cells #[.int .u8 n, .slice A args.length ca] 25)) := (Below.refl _ _).alloc (Nat.le_refl _) _
    have HW1 := Lib.hid (hb1.trans (hbx.mono hb1.size))
    have HA1 := Lib.hid (hA.later hbx (Nat.le_refl _))
    have HP1 := Lib.hid (heap_alloc_new w1 (.cells #[.int .u8 n, .slice A args.length ca] 25))
    clear hv1 hA hbx hb1
    go_wp2_with fail
    refine (refDecode_any s (by omega) at_ _).mono ?_
    rw [HDD.out]
    rintro e w2 ⟨v2, rfl, hv2, hb2⟩
    obtain ⟨B, cb, rfl, hB⟩ := ints_own hv2
    simp only at hB ⊢
    have hbx : Below w2.heap.size w2 (w2.alloc (.cells #[.int .u8 n, .slice B args.length cb] 25)) := (Below.refl _ _).alloc (Nat.le_refl _) _
    have hbz := hb2.trans (hbx.mono hb2.size)
    have HW2 := Lib.hid (HW1.out.trans (hbz.mono HW1.out.size))
    have HA2 := Lib.hid (HA1.out.later hbz (Nat.le_refl _))
    have HB2 := Lib.hid (hB.later hbx (Nat.le_refl _))
    have HP2 := Lib.hid ((hbz.block _ (by simp)).trans HP1.out)
    have HQ2 := Lib.hid (heap_alloc_new w2 (.cells #[.int .u8 n, .slice B args.length cb] 25))
    clear hv2 hB hbx hb2 hbz HW1 HA1 HP1
    go_wp2_with fail
    refine (all_any s (by omega) _ (ht.later HW2.out)).mono ?_
    rintro e w3 ⟨v3, v4, rfl, hI⟩
    obtain ⟨X, capX, rfl, hX⟩ := hI.inss
    obtain ⟨Q, capQ, rfl, hQ⟩ := ints_own hI.own
    have hb3 := hI.old
    have HW3 := Lib.hid (HW2.out.trans (hb3.mono HW2.out.size))
    have HA3 := Lib.hid (HA2.out.later hb3 (Nat.le_refl _))
    have HB3 := Lib.hid (HB2.out.later hb3 (Nat.le_refl _))
    have HP3 := Lib.hid ((hb3.block _ (by simp; have := lt_of_get HP2.out; simp at this; omega)).trans HP2.out)
    have HQ3 := Lib.hid ((hb3.block _ (by simp)).trans HQ2.out)
    have HX3 := Lib.hid hX
    have HK3 := Lib.hid hQ
    clear hI hX hQ hb3 HW2 HA2 HB2 HP2 HQ2
    go_wp2_with fail
    refine (refAll_any s (by omega) _).mono ?_
    rintro e w4 ⟨v5, v6, rfl, hI⟩
    obtain ⟨Y, capY, rfl, hY⟩ := hI.inss
    obtain ⟨R, capR, rfl, hR⟩ := ints_own hI.own
    have hb4 := hI.old
    have HW4 := Lib.hid (HW3.out.trans (hb4.mono HW3.out.size))
    have HA4 := Lib.hid (HA3.out.later hb4 (Nat.le_refl _))
    have HB4 := Lib.hid (HB3.out.later hb4 (Nat.le_refl _))
    have HP4 := Lib.hid ((hb4.block _ (lt_of_get HP3.out)).trans HP3.out)
    have HQ4 := Lib.hid ((hb4.block _ (lt_of_get HQ3.out)).trans HQ3.out)
    have HX4 := Lib.hid (HX3.out.later hb4 (Nat.le_refl _))
    have HK4 := Lib.hid (HK3.out.later hb4 (Nat.le_refl _))
    have HY4 := Lib.hid hY
    have HR4 := Lib.hid hR
    clear hI hY hR hb4 HW3 HA3 HB3 HP3 HQ3 HX3 HK3
    have q0 : w4.cell? ⟨w1.heap.size, 0, none⟩ = some (.int .u8 n) := by unfold World.cell?; rw [HP4.out]; rfl
    have q1 : w4.cell? ⟨w1.heap.size, 1, none⟩ = some (.slice A args.length ca) := by unfold World.cell?; rw [HP4.out]; rfl
    have q2 : w4.cell? ⟨w2.heap.size, 0, none⟩ = some (.int .u8 n) := by unfold World.cell?; rw [HQ4.out]; rfl
    have q3 : w4.cell? ⟨w2.heap.size, 1, none⟩ = some (.slice B args.length cb) := by unfold World.cell?; rw [HQ4.out]; rfl
    have z0 := lt_of_get HP4.out
    have z1 := lt_of_get HQ4.out
    generalize allL s = r at *
    obtain ⟨l, p, g⟩ := r
    simp only at hal hpl HX4 HK4 HY4 HR4 ⊢
    go_wp2_with fail
    refine (same_any n n A B args args ca cb (by omega) (by omega) _ HA4.out HB4.out).mono ?_
    rintro e w5 ⟨rfl, hb5⟩
    rw [decide_eq_true rfl]
    have HW5 := Lib.hid (HW4.out.trans (hb5.mono HW4.out.size))
    have HX5 := Lib.hid (HX4.out.later hb5 (Nat.le_refl _))
    have HK5 := Lib.hid (HK4.out.later hb5 (Nat.le_refl _))
    have HY5 := Lib.hid (HY4.out.later hb5 (Nat.le_refl _))
    have HR5 := Lib.hid (HR4.out.later hb5 (Nat.le_refl _))
    clear hb5 HW4 HA4 HB4 HP4 HQ4 HX4 HK4 HY4 HR4 q0 q1 q2 q3 z0 z1
    go_wp2_with fail
    refine (sameAll_any X Y l l capX capY (by omega) (by omega) _ HX5.out HY5.out).mono ?_
    rintro e w6 ⟨rfl, hb6⟩
    rw [decide_eq_true rfl]
    have HW6 := Lib.hid (HW5.out.trans (hb6.mono HW5.out.size))
    have HK6 := Lib.hid (HK5.out.later hb6 (Nat.le_refl _))
    have HR6 := Lib.hid (HR5.out.later hb6 (Nat.le_refl _))
    clear hb6 HW5 HX5 HK5 HY5 HR5
    go_wp2_with fail
    refine (numbersEq_any Q R p p capQ capR (by omega) (by omega) _ HK6.out HR6.out).mono ?_
    rintro e w7 ⟨rfl, hb7⟩
    rw [decide_eq_true rfl]
    have HW7 := Lib.hid (HW6.out.trans (hb7.mono HW6.out.size))
    clear hb7 HW6 HK6 HR6
    go_wp2_with fail
    refine (alive_any _ (ht.later HW7.out)).mono ?_
    rintro e w9 ⟨rfl, hb9⟩
    go_wp2_with fail
    go_ret
    exact ⟨rfl, HW7.out.trans (hb9.mono HW7.out.size)⟩
end Go.Proofs.YtgcmenjpcgdikaaDoor
