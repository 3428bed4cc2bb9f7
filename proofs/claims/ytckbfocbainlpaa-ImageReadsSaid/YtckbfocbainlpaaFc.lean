/- separatumlaw24.ImageReads answers true. Condition: what lies in memory can lie there. -/
import Derived.Test.YtckbfocbainlpaaFa
import Derived.Test.YtckbfocbainlpaaFb
import Derived.Test.YtckbfocbainlpaaSe
namespace Go.Proofs.Ytckbfocbainlpaa
open Go.RowKit
set_option maxRecDepth 100000

theorem rightL_len (s : List UInt8) : (rightL s).length ≤ s.length + 12 := by
  unfold rightL
  split
  · omega
  · simp only [List.length_append, List.length_take, List.length_drop]
    have : (eightL (keyN (s.drop 12))).length = 8 := beN_length _ _
    omega
set_option maxHeartbeats 4000000 in
theorem imageReads_any (s : List UInt8) (hs : s.length ≤ 9223372036854775807) (key : Bool) (w : World) : Calls Try.prog 4 #[.string ⟨s.toArray⟩, .bool key] w (BoolEnd w true) := by
  by_cases h : 4096 < s.length
  · have hI : (4096 : Int) < (s.length : Int) := by omega
    clear h
    go_enter Try.func4, Try.ntmps4
    go_wp2_with fail
    refine (alive_any _).mono ?_
    rintro e w1 ⟨rfl, hb1⟩
    have HB1 := Lib.hid hb1
    clear hb1
    go_wp2_with fail
    go_ret
    exact ⟨rfl, HB1.out⟩
  have hI : ¬ (4096 : Int) < (s.length : Int) := by omega
  have hl : s.length ≤ 4096 := by omega
  clear h
  cases key
  case false =>
    have HB0 := Lib.hid (Below.refl w.heap.size w)
    go_enter Try.func4, Try.ntmps4
    go_wp2_with fail
    refine (decode_any s (by omega) _).mono ?_
    rintro e w1 ⟨t1, rfl, hI1, hb1⟩
    have HI1 := Lib.hid hI1
    have HB1 := Lib.hid (HB0.out.trans (hb1.mono HB0.out.size))
    clear hI1 hb1
    generalize hDi : decodeI s = i at *
    generalize hDe : decodeE s = er at *
    have HDi := Lib.hid hDi
    have HDe := Lib.hid hDe
    clear hDi hDe
    unfold imgV
    go_wp2_with fail
    refine (refDecode_any s (by omega) _).mono ?_
    intro e w2 h2
    obtain ⟨t2, rfl, hI2, hb2⟩ := decEnd_eq h2 HDi.out HDe.out
    clear h2
    have HA1 := Lib.hid (alloc_below w1 (.cells #[.slice t1.A1 i.names.length t1.c1, .slice t1.A2 i.mods.length t1.c2, .slice t1.A3 i.order.length t1.c3] 28))
    have HX2 := Lib.hid ((Box.new w1 #[.slice t1.A1 i.names.length t1.c1, .slice t1.A2 i.mods.length t1.c2, .slice t1.A3 i.order.length t1.c3] 28 (by decide)).grow hb2)
    have HI1b := Lib.hid ((HI1.out.later HA1.out (Nat.le_refl _)).later hb2 (Nat.le_refl _))
    have HI2 := Lib.hid hI2
    have HB2 := Lib.hid ((HB1.out.trans (HA1.out.mono HB1.out.size)).trans (hb2.mono (HB1.out.trans (HA1.out.mono HB1.out.size)).size))
    have HA2 := Lib.hid (alloc_below w2 (.cells #[.slice t2.A1 i.names.length t2.c1, .slice t2.A2 i.mods.length t2.c2, .slice t2.A3 i.order.length t2.c3] 28))
    have HY3 := Lib.hid (Box.new w2 #[.slice t2.A1 i.names.length t2.c1, .slice t2.A2 i.mods.length t2.c2, .slice t2.A3 i.order.length t2.c3] 28 (by decide))
    have HX3 := Lib.hid (HX2.out.grow HA2.out)
    have HI1c := Lib.hid (HI1b.out.later HA2.out (Nat.le_refl _))
    have HI2c := Lib.hid (HI2.out.later HA2.out (Nat.le_refl _))
    have HB3 := Lib.hid (HB2.out.trans (HA2.out.mono HB2.out.size))
    clear hI2 hb2 HI1 HB1 HX2 HI1b HI2 HB2 HA1 HA2
    unfold imgV
    go_upto_region 7 with (fail)
    generalize w2.alloc (.cells #[.slice t2.A1 i.names.length t2.c1, .slice t2.A2 i.mods.length t2.c2, .slice t2.A3 i.order.length t2.c3] 28) = w3 at *
    generalize w1.heap.size = b1 at *
    generalize w2.heap.size = b2 at *
    have c0 : w3.cell? ⟨b1, 0, none⟩ = some (.slice t1.A1 i.names.length t1.c1) := (HX3.out.cell 0).trans rfl
    have c1 : w3.cell? ⟨b1, 1, none⟩ = some (.slice t1.A2 i.mods.length t1.c2) := (HX3.out.cell 1).trans rfl
    have c2 : w3.cell? ⟨b1, 2, none⟩ = some (.slice t1.A3 i.order.length t1.c3) := (HX3.out.cell 2).trans rfl
    have d0 : w3.cell? ⟨b2, 0, none⟩ = some (.slice t2.A1 i.names.length t2.c1) := (HY3.out.cell 0).trans rfl
    have d1 : w3.cell? ⟨b2, 1, none⟩ = some (.slice t2.A2 i.mods.length t2.c2) := (HY3.out.cell 1).trans rfl
    have d2 : w3.cell? ⟨b2, 2, none⟩ = some (.slice t2.A3 i.order.length t2.c3) := (HY3.out.cell 2).trans rfl
    go_wp2_with fail
    refine (refSame_any t1 t2 i i w3 HI1c.out HI2c.out).mono ?_
    rw [show decide (i = i) = true by simp]
    rintro e w4 ⟨rfl, hb4⟩
    have HB4 := Lib.hid (HB3.out.trans (hb4.mono HB3.out.size))
    clear hb4 c0 c1 c2 d0 d1 d2 HX3 HY3 HI1c HI2c HB3
    go_wp2_with fail
    refine (alive_any _).mono ?_
    rintro e w5 ⟨rfl, hb5⟩
    have HB5 := Lib.hid (HB4.out.trans (hb5.mono HB4.out.size))
    clear hb5
    go_wp2_with fail
    go_ret
    exact ⟨rfl, HB5.out⟩

  case true =>
    go_enter Try.func4, Try.ntmps4
    go_wp2_with fail
    refine (right_any s (by omega) _).mono ?_
    rintro e w0 ⟨rfl, hb0⟩
    have HB0 := Lib.hid hb0
    have hrl := rightL_len s
    clear hb0
    generalize rightL s = r at *
    go_wp2_with fail
    refine (decode_any r (by omega) _).mono ?_
    rintro e w1 ⟨t1, rfl, hI1, hb1⟩
    have HI1 := Lib.hid hI1
    have HB1 := Lib.hid (HB0.out.trans (hb1.mono HB0.out.size))
    clear hI1 hb1
    generalize hDi : decodeI r = i at *
    generalize hDe : decodeE r = er at *
    have HDi := Lib.hid hDi
    have HDe := Lib.hid hDe
    clear hDi hDe
    unfold imgV
    go_wp2_with fail
    refine (refDecode_any r (by omega) _).mono ?_
    intro e w2 h2
    obtain ⟨t2, rfl, hI2, hb2⟩ := decEnd_eq h2 HDi.out HDe.out
    clear h2
    have HA1 := Lib.hid (alloc_below w1 (.cells #[.slice t1.A1 i.names.length t1.c1, .slice t1.A2 i.mods.length t1.c2, .slice t1.A3 i.order.length t1.c3] 28))
    have HX2 := Lib.hid ((Box.new w1 #[.slice t1.A1 i.names.length t1.c1, .slice t1.A2 i.mods.length t1.c2, .slice t1.A3 i.order.length t1.c3] 28 (by decide)).grow hb2)
    have HI1b := Lib.hid ((HI1.out.later HA1.out (Nat.le_refl _)).later hb2 (Nat.le_refl _))
    have HI2 := Lib.hid hI2
    have HB2 := Lib.hid ((HB1.out.trans (HA1.out.mono HB1.out.size)).trans (hb2.mono (HB1.out.trans (HA1.out.mono HB1.out.size)).size))
    have HA2 := Lib.hid (alloc_below w2 (.cells #[.slice t2.A1 i.names.length t2.c1, .slice t2.A2 i.mods.length t2.c2, .slice t2.A3 i.order.length t2.c3] 28))
    have HY3 := Lib.hid (Box.new w2 #[.slice t2.A1 i.names.length t2.c1, .slice t2.A2 i.mods.length t2.c2, .slice t2.A3 i.order.length t2.c3] 28 (by decide))
    have HX3 := Lib.hid (HX2.out.grow HA2.out)
    have HI1c := Lib.hid (HI1b.out.later HA2.out (Nat.le_refl _))
    have HI2c := Lib.hid (HI2.out.later HA2.out (Nat.le_refl _))
    have HB3 := Lib.hid (HB2.out.trans (HA2.out.mono HB2.out.size))
    clear hI2 hb2 HI1 HB1 HX2 HI1b HI2 HB2 HA1 HA2
    unfold imgV
    go_upto_region 7 with (fail)
    generalize w2.alloc (.cells #[.slice t2.A1 i.names.length t2.c1, .slice t2.A2 i.mods.length t2.c2, .slice t2.A3 i.order.length t2.c3] 28) = w3 at *
    generalize w1.heap.size = b1 at *
    generalize w2.heap.size = b2 at *
    have c0 : w3.cell? ⟨b1, 0, none⟩ = some (.slice t1.A1 i.names.length t1.c1) := (HX3.out.cell 0).trans rfl
    have c1 : w3.cell? ⟨b1, 1, none⟩ = some (.slice t1.A2 i.mods.length t1.c2) := (HX3.out.cell 1).trans rfl
    have c2 : w3.cell? ⟨b1, 2, none⟩ = some (.slice t1.A3 i.order.length t1.c3) := (HX3.out.cell 2).trans rfl
    have d0 : w3.cell? ⟨b2, 0, none⟩ = some (.slice t2.A1 i.names.length t2.c1) := (HY3.out.cell 0).trans rfl
    have d1 : w3.cell? ⟨b2, 1, none⟩ = some (.slice t2.A2 i.mods.length t2.c2) := (HY3.out.cell 1).trans rfl
    have d2 : w3.cell? ⟨b2, 2, none⟩ = some (.slice t2.A3 i.order.length t2.c3) := (HY3.out.cell 2).trans rfl
    go_wp2_with fail
    refine (refSame_any t1 t2 i i w3 HI1c.out HI2c.out).mono ?_
    rw [show decide (i = i) = true by simp]
    rintro e w4 ⟨rfl, hb4⟩
    have HB4 := Lib.hid (HB3.out.trans (hb4.mono HB3.out.size))
    clear hb4 c0 c1 c2 d0 d1 d2 HX3 HY3 HI1c HI2c HB3
    go_wp2_with fail
    refine (alive_any _).mono ?_
    rintro e w5 ⟨rfl, hb5⟩
    have HB5 := Lib.hid (HB4.out.trans (hb5.mono HB4.out.size))
    clear hb5
    go_wp2_with fail
    go_ret
    exact ⟨rfl, HB5.out⟩

end Go.Proofs.Ytckbfocbainlpaa
