/- separatumlaw24.ImageTells answers true. Condition: what lies in memory can lie there. (Printed by gen_fd.py.) -/
import Derived.Test.YtckbfocbainlpaaFa
import Derived.Test.YtckbfocbainlpaaEb
import Derived.Test.YtckbfocbainlpaaSe
namespace Go.Proofs.Ytckbfocbainlpaa
open Go.RowKit
set_option maxRecDepth 100000

/-- What stands throughout: two images, their boxes, what is old. -/
structure TI (w : World) (sa : IS) (a : ImgL) (sb : IS) (b : ImgL) (W : World) : Prop where
  ia : ImgIn W sa a
  ib : ImgIn W sb b
  xa : Box w.heap.size #[.slice sa.A1 a.names.length sa.c1, .slice sa.A2 a.mods.length sa.c2, .slice sa.A3 a.order.length sa.c3] 28 W
  xb : Box (w.heap.size + 1) #[.slice sb.A1 b.names.length sb.c1, .slice sb.A2 b.mods.length sb.c2, .slice sb.A3 b.order.length sb.c3] 28 W
  old : Below w.heap.size w W
theorem TI.grow {w : World} {sa : IS} {a : ImgL} {sb : IS} {b : ImgL} {W W' : World} (h : TI w sa a sb b W) (hb : Below W.heap.size W W') : TI w sa a sb b W' :=
  ⟨h.ia.later hb (Nat.le_refl _), h.ib.later hb (Nat.le_refl _), h.xa.grow hb, h.xb.grow hb, h.old.trans (hb.mono h.old.size)⟩
theorem TI.start {w : World} {sa : IS} {a : ImgL} {sb : IS} {b : ImgL} (hA : ImgIn w sa a) (hB : ImgIn w sb b) : TI w sa a sb b ((w.alloc (.cells #[.slice sa.A1 a.names.length sa.c1, .slice sa.A2 a.mods.length sa.c2, .slice sa.A3 a.order.length sa.c3] 28)).alloc (.cells #[.slice sb.A1 b.names.length sb.c1, .slice sb.A2 b.mods.length sb.c2, .slice sb.A3 b.order.length sb.c3] 28)) := by
  have hb : Below w.heap.size w ((w.alloc (.cells #[.slice sa.A1 a.names.length sa.c1, .slice sa.A2 a.mods.length sa.c2, .slice sa.A3 a.order.length sa.c3] 28)).alloc (.cells #[.slice sb.A1 b.names.length sb.c1, .slice sb.A2 b.mods.length sb.c2, .slice sb.A3 b.order.length sb.c3] 28)) := ((Below.refl _ _).alloc (Nat.le_refl _) _).alloc (by simp) _
  have hx := Box.new (w.alloc (.cells #[.slice sa.A1 a.names.length sa.c1, .slice sa.A2 a.mods.length sa.c2, .slice sa.A3 a.order.length sa.c3] 28)) #[.slice sb.A1 b.names.length sb.c1, .slice sb.A2 b.mods.length sb.c2, .slice sb.A3 b.order.length sb.c3] 28 (by decide)
  exact ⟨hA.later hb (Nat.le_refl _), hB.later hb (Nat.le_refl _), (Box.new w _ _ (by decide)).grow (alloc_below _ _), by simpa using hx, hb⟩

theorem imgCheck_eq {s : IS} {i : ImgL} {w : World} {ok : Bool} {n : Int} (hI : ImgIn w s i) (h : imgB i = ok) (hn : errArg ok = n) : Calls Try.prog 11 #[imgV s i] w (IntEnd w n) := by
  rw [← hn, ← h]; exact imgCheck_any s i w hI
theorem imgSame_eq {s t : IS} {i j : ImgL} {w : World} {sm : Bool} (hI : ImgIn w s i) (hJ : ImgIn w t j) (h : decide (i = j) = sm) : Calls Try.prog 13 #[imgV s i, imgV t j] w (BoolEnd w sm) := by
  rw [← h]; exact imgSame_any s t i j w hI hJ
theorem refSame_eq {s t : IS} {i j : ImgL} {w : World} {sm : Bool} (hI : ImgIn w s i) (hJ : ImgIn w t j) (h : decide (i = j) = sm) : Calls Try.prog 14 #[imgV s i, imgV t j] w (BoolEnd w sm) := by
  rw [← h]; exact refSame_any s t i j w hI hJ
theorem refMay_eq {s : IS} {i : ImgL} {w : World} {ok : Bool} (hI : ImgIn w s i) (h : imgB i = ok) : Calls Try.prog 12 #[imgV s i] w (BoolEnd w ok) := by
  rw [← h]; exact refMay_any s i w hI
set_option maxHeartbeats 4000000 in
theorem imageTells_any (sa sb : IS) (a b : ImgL) (w : World) (hA : ImgIn w sa a) (hB : ImgIn w sb b) : Calls Try.prog 3 #[imgV sa a, imgV sb b] w (BoolEnd w true) := by
  have HT0 := Lib.hid (TI.start hA hB)
  have hml := hA.mods_le
  clear hA hB
  obtain ⟨A1, c1, A2, c2, A3, c3⟩ := sa
  obtain ⟨B1, d1, B2, d2, B3, d3⟩ := sb
  simp only at HT0
  unfold imgV
  go_enter Try.func3, Try.ntmps3
  go_wp2_with fail
  refine (large_any ⟨A1, c1, A2, c2, A3, c3⟩ a _ HT0.out.ia).mono ?_
  rintro e w1 ⟨b1, rfl, hb1⟩
  have HT1 := Lib.hid (HT0.out.grow hb1)
  clear hb1 HT0
  have q0 : w1.cell? ⟨w.heap.size, 0, none⟩ = some (.slice A1 a.names.length c1) := (HT1.out.xa.cell 0).trans rfl
  have q1 : w1.cell? ⟨w.heap.size, 1, none⟩ = some (.slice A2 a.mods.length c2) := (HT1.out.xa.cell 1).trans rfl
  have q2 : w1.cell? ⟨w.heap.size, 2, none⟩ = some (.slice A3 a.order.length c3) := (HT1.out.xa.cell 2).trans rfl
  have r0 : w1.cell? ⟨w.heap.size + 1, 0, none⟩ = some (.slice B1 b.names.length d1) := (HT1.out.xb.cell 0).trans rfl
  have r1 : w1.cell? ⟨w.heap.size + 1, 1, none⟩ = some (.slice B2 b.mods.length d2) := (HT1.out.xb.cell 1).trans rfl
  have r2 : w1.cell? ⟨w.heap.size + 1, 2, none⟩ = some (.slice B3 b.order.length d3) := (HT1.out.xb.cell 2).trans rfl
  cases b1
  case true =>
    go_wp2_with fail
    refine (alive_any _).mono ?_
    rintro e w9 ⟨rfl, hb9⟩
    have H9 := Lib.hid (HT1.out.old.trans (hb9.mono HT1.out.old.size))
    clear hb9
    go_wp2_with fail
    go_ret
    exact ⟨rfl, H9.out⟩

  go_wp2_with fail
  refine (large_any ⟨B1, d1, B2, d2, B3, d3⟩ b _ HT1.out.ib).mono ?_
  rintro e w2 ⟨b2, rfl, hb2⟩
  have HT2 := Lib.hid (HT1.out.grow hb2)
  clear hb2 HT1 q0 q1 q2 r0 r1 r2
  have q0 : w2.cell? ⟨w.heap.size, 0, none⟩ = some (.slice A1 a.names.length c1) := (HT2.out.xa.cell 0).trans rfl
  have q1 : w2.cell? ⟨w.heap.size, 1, none⟩ = some (.slice A2 a.mods.length c2) := (HT2.out.xa.cell 1).trans rfl
  have q2 : w2.cell? ⟨w.heap.size, 2, none⟩ = some (.slice A3 a.order.length c3) := (HT2.out.xa.cell 2).trans rfl
  have r0 : w2.cell? ⟨w.heap.size + 1, 0, none⟩ = some (.slice B1 b.names.length d1) := (HT2.out.xb.cell 0).trans rfl
  have r1 : w2.cell? ⟨w.heap.size + 1, 1, none⟩ = some (.slice B2 b.mods.length d2) := (HT2.out.xb.cell 1).trans rfl
  have r2 : w2.cell? ⟨w.heap.size + 1, 2, none⟩ = some (.slice B3 b.order.length d3) := (HT2.out.xb.cell 2).trans rfl
  cases b2
  case true =>
    go_wp2_with fail
    refine (alive_any _).mono ?_
    rintro e w9 ⟨rfl, hb9⟩
    have H9 := Lib.hid (HT2.out.old.trans (hb9.mono HT2.out.old.size))
    clear hb9
    go_wp2_with fail
    go_ret
    exact ⟨rfl, H9.out⟩

  go_wp2_with fail
  refine (encode_any ⟨A1, c1, A2, c2, A3, c3⟩ a _ HT2.out.ia).mono ?_
  rintro e w3 ⟨rfl, hb3⟩
  have HT3 := Lib.hid (HT2.out.grow hb3)
  clear hb3 HT2 q0 q1 q2 r0 r1 r2
  have q0 : w3.cell? ⟨w.heap.size, 0, none⟩ = some (.slice A1 a.names.length c1) := (HT3.out.xa.cell 0).trans rfl
  have q1 : w3.cell? ⟨w.heap.size, 1, none⟩ = some (.slice A2 a.mods.length c2) := (HT3.out.xa.cell 1).trans rfl
  have q2 : w3.cell? ⟨w.heap.size, 2, none⟩ = some (.slice A3 a.order.length c3) := (HT3.out.xa.cell 2).trans rfl
  have r0 : w3.cell? ⟨w.heap.size + 1, 0, none⟩ = some (.slice B1 b.names.length d1) := (HT3.out.xb.cell 0).trans rfl
  have r1 : w3.cell? ⟨w.heap.size + 1, 1, none⟩ = some (.slice B2 b.mods.length d2) := (HT3.out.xb.cell 1).trans rfl
  have r2 : w3.cell? ⟨w.heap.size + 1, 2, none⟩ = some (.slice B3 b.order.length d3) := (HT3.out.xb.cell 2).trans rfl
  go_wp2_with fail
  refine (refEncode_any ⟨A1, c1, A2, c2, A3, c3⟩ a _ HT3.out.ia).mono ?_
  rintro e w4 ⟨rfl, hb4⟩
  have HT4 := Lib.hid (HT3.out.grow hb4)
  clear hb4 HT3 q0 q1 q2 r0 r1 r2
  have q0 : w4.cell? ⟨w.heap.size, 0, none⟩ = some (.slice A1 a.names.length c1) := (HT4.out.xa.cell 0).trans rfl
  have q1 : w4.cell? ⟨w.heap.size, 1, none⟩ = some (.slice A2 a.mods.length c2) := (HT4.out.xa.cell 1).trans rfl
  have q2 : w4.cell? ⟨w.heap.size, 2, none⟩ = some (.slice A3 a.order.length c3) := (HT4.out.xa.cell 2).trans rfl
  have r0 : w4.cell? ⟨w.heap.size + 1, 0, none⟩ = some (.slice B1 b.names.length d1) := (HT4.out.xb.cell 0).trans rfl
  have r1 : w4.cell? ⟨w.heap.size + 1, 1, none⟩ = some (.slice B2 b.mods.length d2) := (HT4.out.xb.cell 1).trans rfl
  have r2 : w4.cell? ⟨w.heap.size + 1, 2, none⟩ = some (.slice B3 b.order.length d3) := (HT4.out.xb.cell 2).trans rfl
  generalize encodeL a = s at *
  go_wp2_with fail
  refine (sizes_any ⟨A1, c1, A2, c2, A3, c3⟩ a _ HT4.out.ia).mono ?_
  rintro e w5 ⟨rfl, hb5⟩
  have HT5 := Lib.hid (HT4.out.grow hb5)
  clear hb5 HT4 q0 q1 q2 r0 r1 r2
  have q0 : w5.cell? ⟨w.heap.size, 0, none⟩ = some (.slice A1 a.names.length c1) := (HT5.out.xa.cell 0).trans rfl
  have q1 : w5.cell? ⟨w.heap.size, 1, none⟩ = some (.slice A2 a.mods.length c2) := (HT5.out.xa.cell 1).trans rfl
  have q2 : w5.cell? ⟨w.heap.size, 2, none⟩ = some (.slice A3 a.order.length c3) := (HT5.out.xa.cell 2).trans rfl
  have r0 : w5.cell? ⟨w.heap.size + 1, 0, none⟩ = some (.slice B1 b.names.length d1) := (HT5.out.xb.cell 0).trans rfl
  have r1 : w5.cell? ⟨w.heap.size + 1, 1, none⟩ = some (.slice B2 b.mods.length d2) := (HT5.out.xb.cell 1).trans rfl
  have r2 : w5.cell? ⟨w.heap.size + 1, 2, none⟩ = some (.slice B3 b.order.length d3) := (HT5.out.xb.cell 2).trans rfl
  go_wp2_with fail
  go_loopg [11, 12, 13] (a.mods.length) (fun g u v x wr => ∃ k : Nat, k + g = a.mods.length ∧ x = .int .i64 k ∧ u = .int .i64 (codeTo a.mods k) ∧ v = .int .i64 (dataTo a.mods k) ∧ wr = w5)
  case atStart => exact ⟨0, by omega, rfl, rfl, rfl, rfl⟩
  case round =>
    obtain ⟨k, hk, rfl, rfl, rfl, rfl⟩ := hrel
    by_cases hlt : k < a.mods.length
    · obtain ⟨bm, om, hA2, hb2, s2, hM, e0, e1, e2, e3, e4⟩ := Each.at_ HT5.out.ia.mods hlt
      have H1 := Lib.hid (codeTo_succ a.mods k)
      have H2 := Lib.hid (dataTo_succ a.mods k)
      have hcl := hM.code_le
      clear hM
      generalize a.mods.getD k default = m at *
      generalize codeTo a.mods k = cc at *
      generalize dataTo a.mods k = dd at *
      simp only at hA2
      subst hA2
      have hkI : (k : Int) < (a.mods.length : Int) := by omega
      go_wp2_with fail
      go_roundg (gk - 1)
      case measure => omega
      case rel => exact ⟨k + 1, by omega, by go_num, by rw [H1.out], by rw [H2.out], rfl⟩
    · obtain rfl : k = a.mods.length := by omega
      have HG := Lib.hid (fun x => HT5.out.grow (growN_below wr x))
      have z0 : w.heap.size < wr.heap.size := HT5.out.xa.lt
      have z1 : w.heap.size + 1 < wr.heap.size := HT5.out.xb.lt
      generalize codeTo a.mods a.mods.length = cc at *
      generalize dataTo a.mods a.mods.length = dd at *
      go_upto_region 12 with (fail)
      cases hok : imgB a
      case false =>
        cases hsm : decide (a = b)
        case false =>
          have HOk := Lib.hid hok
          have HSm := Lib.hid hsm
          clear hok hsm
          refine wp_region_grow (by kernel_rfl) (by kernel_rfl) ?_
          repeat (first | go_big_quiet_step (first
            | (go_at_call 11; refine quiet_grow (imgCheck_eq (s := ⟨A1, c1, A2, c2, A3, c3⟩) (i := a) (n := 2) (HG.out _).ia HOk.out rfl))
            | (go_at_call 12; refine quiet_grow (refMay_eq (s := ⟨A1, c1, A2, c2, A3, c3⟩) (i := a) (HG.out _).ia HOk.out))
            | (go_at_call 13; refine quiet_grow (imgSame_eq (s := ⟨A1, c1, A2, c2, A3, c3⟩) (t := ⟨B1, d1, B2, d2, B3, d3⟩) (i := a) (j := b) (HG.out _).ia (HG.out _).ib HSm.out))
            | (go_at_call 14; refine quiet_grow (refSame_eq (s := ⟨A1, c1, A2, c2, A3, c3⟩) (t := ⟨B1, d1, B2, d2, B3, d3⟩) (i := a) (j := b) (HG.out _).ia (HG.out _).ib HSm.out))
            | (go_at_call 7; refine quiet_grow (alive_any _))))
          refine wpQuiet_nil ?_
          rintro _ ⟨gx, rfl⟩
          have HE := Lib.hid (HG.out gx)
          go_wp2_with fail
          go_ret
          exact ⟨rfl, HE.out.old⟩
        case true =>
          have HOk := Lib.hid hok
          have HSm := Lib.hid hsm
          clear hok hsm
          refine wp_region_grow (by kernel_rfl) (by kernel_rfl) ?_
          repeat (first | go_big_quiet_step (first
            | (go_at_call 11; refine quiet_grow (imgCheck_eq (s := ⟨A1, c1, A2, c2, A3, c3⟩) (i := a) (n := 2) (HG.out _).ia HOk.out rfl))
            | (go_at_call 12; refine quiet_grow (refMay_eq (s := ⟨A1, c1, A2, c2, A3, c3⟩) (i := a) (HG.out _).ia HOk.out))
            | (go_at_call 13; refine quiet_grow (imgSame_eq (s := ⟨A1, c1, A2, c2, A3, c3⟩) (t := ⟨B1, d1, B2, d2, B3, d3⟩) (i := a) (j := b) (HG.out _).ia (HG.out _).ib HSm.out))
            | (go_at_call 14; refine quiet_grow (refSame_eq (s := ⟨A1, c1, A2, c2, A3, c3⟩) (t := ⟨B1, d1, B2, d2, B3, d3⟩) (i := a) (j := b) (HG.out _).ia (HG.out _).ib HSm.out))
            | (go_at_call 7; refine quiet_grow (alive_any _))))
          refine wpQuiet_nil ?_
          rintro _ ⟨gx, rfl⟩
          have HE := Lib.hid (HG.out gx)
          go_wp2_with fail
          go_ret
          exact ⟨rfl, HE.out.old⟩
      case true =>
        cases hsm : decide (a = b)
        case false =>
          have HOk := Lib.hid hok
          have HSm := Lib.hid hsm
          clear hok hsm
          refine wp_region_grow (by kernel_rfl) (by kernel_rfl) ?_
          repeat (first | go_big_quiet_step (first
            | (go_at_call 11; refine quiet_grow (imgCheck_eq (s := ⟨A1, c1, A2, c2, A3, c3⟩) (i := a) (n := 0) (HG.out _).ia HOk.out rfl))
            | (go_at_call 12; refine quiet_grow (refMay_eq (s := ⟨A1, c1, A2, c2, A3, c3⟩) (i := a) (HG.out _).ia HOk.out))
            | (go_at_call 13; refine quiet_grow (imgSame_eq (s := ⟨A1, c1, A2, c2, A3, c3⟩) (t := ⟨B1, d1, B2, d2, B3, d3⟩) (i := a) (j := b) (HG.out _).ia (HG.out _).ib HSm.out))
            | (go_at_call 14; refine quiet_grow (refSame_eq (s := ⟨A1, c1, A2, c2, A3, c3⟩) (t := ⟨B1, d1, B2, d2, B3, d3⟩) (i := a) (j := b) (HG.out _).ia (HG.out _).ib HSm.out))
            | (go_at_call 7; refine quiet_grow (alive_any _))))
          refine wpQuiet_nil ?_
          rintro _ ⟨gx, rfl⟩
          have HE := Lib.hid (HG.out gx)
          go_wp2_with fail
          go_ret
          exact ⟨rfl, HE.out.old⟩
        case true =>
          have HOk := Lib.hid hok
          have HSm := Lib.hid hsm
          clear hok hsm
          refine wp_region_grow (by kernel_rfl) (by kernel_rfl) ?_
          repeat (first | go_big_quiet_step (first
            | (go_at_call 11; refine quiet_grow (imgCheck_eq (s := ⟨A1, c1, A2, c2, A3, c3⟩) (i := a) (n := 0) (HG.out _).ia HOk.out rfl))
            | (go_at_call 12; refine quiet_grow (refMay_eq (s := ⟨A1, c1, A2, c2, A3, c3⟩) (i := a) (HG.out _).ia HOk.out))
            | (go_at_call 13; refine quiet_grow (imgSame_eq (s := ⟨A1, c1, A2, c2, A3, c3⟩) (t := ⟨B1, d1, B2, d2, B3, d3⟩) (i := a) (j := b) (HG.out _).ia (HG.out _).ib HSm.out))
            | (go_at_call 14; refine quiet_grow (refSame_eq (s := ⟨A1, c1, A2, c2, A3, c3⟩) (t := ⟨B1, d1, B2, d2, B3, d3⟩) (i := a) (j := b) (HG.out _).ia (HG.out _).ib HSm.out))
            | (go_at_call 7; refine quiet_grow (alive_any _))))
          refine wpQuiet_nil ?_
          rintro _ ⟨gx, rfl⟩
          have HE := Lib.hid (HG.out gx)
          go_wp2_with fail
          go_ret
          exact ⟨rfl, HE.out.old⟩
end Go.Proofs.Ytckbfocbainlpaa
