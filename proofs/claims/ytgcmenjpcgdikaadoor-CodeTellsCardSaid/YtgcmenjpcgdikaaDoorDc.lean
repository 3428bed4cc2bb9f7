/- separatumlaw16.CodeTells: for every row of instructions, every two instructions and every op it answers true. Conditions: what lies in memory can lie there. -/
import Derived.Test.YtgcmenjpcgdikaaDoorRe
import Derived.Test.YtgcmenjpcgdikaaDoorCr
namespace Go.Proofs.YtgcmenjpcgdikaaDoor
open Go.RowKit
set_option maxRecDepth 100000

theorem size_one (n : Nat) (args : List Int) : (encodeL [(n, args)]).1.length = (oneL n args).1.length := by
  have h := oneL_short n args
  have hb : bytesOf [(n, args)] = (oneL n args).1 := by simp [bytesOf]
  unfold encodeL
  rw [hb]
  by_cases he : errOf [(n, args)] ≠ 0
  · rw [if_pos he]
    have : (oneL n args).2 ≠ 0 := by
      intro h0
      apply he
      simp [errOf, h0]
    have : (oneL n args).1 = [] := by
      revert this
      unfold oneL
      repeat' split
      all_goals simp
    rw [this]
  · rw [if_neg he, if_neg (by omega)]

theorem size_as (n : Nat) (hn : n < 256) (A : Option Addr) (args : List Int) (cap : Nat) (hl : args.length ≤ 17592186044416) (w : World) (ht : Tab w) (hA : Ints w A args) :
    Calls Tryd.prog 18 #[.agg #[.int .u8 n, .slice A args.length cap]] w fun e w' => e = .returned (.int .i64 ((oneL n args).1.length : Int)) ∧ Below w.heap.size w w' := by
  rw [← size_one]; exact size_any n hn A args cap hl w ht hA

set_option maxHeartbeats 2000000 in
theorem codeTells_any (L A B : Option Addr) (l : List InsL) (n m : Nat) (a b : List Int) (cl ca cb op : Nat) (hop : op < 256) (hn : n < 256) (hm : m < 256) (hl : l.length ≤ 9223372036854775807) (ha : a.length ≤ 17592186044416) (hb : b.length ≤ 17592186044416)
    (w : World) (ht : Tab w) (hL : Inss w L l) (hA : Ints w A a) (hB : Ints w B b) :
    Calls Tryd.prog 7 #[.slice L l.length cl, .agg #[.int .u8 n, .slice A a.length ca], .agg #[.int .u8 m, .slice B b.length cb], .int .u8 op] w fun e w' => e = .returned (.bool true) ∧ Below w.heap.size w w' := by
  have hbel : Below w.heap.size w ((w.alloc (.cells #[.int .u8 n, .slice A a.length ca] 25)).alloc (.cells #[.int .u8 m, .slice B b.length cb] 25)) :=
    ((Below.refl _ _).alloc (Nat.le_refl _) _).alloc (by simp) _
  have p0 : ((w.alloc (.cells #[.int .u8 n, .slice A a.length ca] 25)).alloc (.cells #[.int .u8 m, .slice B b.length cb] 25)).heap[w.heap.size]? = some (.cells #[.int .u8 n, .slice A a.length ca] 25 (0, 0)) :=
    (Below.heap_alloc _ _ _ (by simp)).trans (heap_alloc_new _ _)
  have p1 : ((w.alloc (.cells #[.int .u8 n, .slice A a.length ca] 25)).alloc (.cells #[.int .u8 m, .slice B b.length cb] 25)).heap[w.heap.size + 1]? = some (.cells #[.int .u8 m, .slice B b.length cb] 25 (0, 0)) := by
    have := heap_alloc_new (w.alloc (.cells #[.int .u8 n, .slice A a.length ca] 25)) (.cells #[.int .u8 m, .slice B b.length cb] 25)
    rw [World.size_alloc] at this
    exact this
  have HW := Lib.hid hbel
  have HT := Lib.hid (ht.later hbel)
  have HL := Lib.hid (hL.later hbel (Nat.le_refl _))
  have HA := Lib.hid (hA.later hbel (Nat.le_refl _))
  have HB := Lib.hid (hB.later hbel (Nat.le_refl _))
  have P0 := Lib.hid p0
  have P1 := Lib.hid p1
  clear hbel ht hL hA hB p0 p1
  go_enter Tryd.func7, Tryd.ntmps7
  go_wp2_with fail
  refine (long_any L l cl hl _ HL.out).mono ?_
  rintro e w1 ⟨⟨b1, rfl, hb1⟩, hw1⟩
  rw [hw1] at HW HT HL HA HB P0 P1
  clear hw1
  have q0 : w1.cell? ⟨w.heap.size, 0, none⟩ = some (.int .u8 n) := by unfold World.cell?; rw [P0.out]; rfl
  have q1 : w1.cell? ⟨w.heap.size, 1, none⟩ = some (.slice A a.length ca) := by unfold World.cell?; rw [P0.out]; rfl
  have q2 : w1.cell? ⟨w.heap.size + 1, 0, none⟩ = some (.int .u8 m) := by unfold World.cell?; rw [P1.out]; rfl
  have q3 : w1.cell? ⟨w.heap.size + 1, 1, none⟩ = some (.slice B b.length cb) := by unfold World.cell?; rw [P1.out]; rfl
  have z0 : w.heap.size < w1.heap.size := lt_of_get P0.out
  have z1 : w.heap.size + 1 < w1.heap.size := lt_of_get P1.out
  cases b1
  case true =>
    go_wp2_with fail
    refine (alive_any _ HT.out).mono ?_
    rintro e w9 ⟨rfl, hb9⟩
    go_wp2_with fail
    go_ret
    exact ⟨rfl, HW.out.trans (hb9.mono HW.out.size)⟩
  case false =>
    have hl2 := hb1 rfl
    clear hb1
    have hbx : Below w1.heap.size w1 (w1.alloc (.cells #[.int .u8 n, .slice A a.length ca, .int .u8 m, .slice B b.length cb] 25)) := (Below.refl _ _).alloc (Nat.le_refl _) _
    have HX := Lib.hid (inss2 (heap_alloc_new w1 (.cells #[.int .u8 n, .slice A a.length ca, .int .u8 m, .slice B b.length cb] 25)) (HA.out.later hbx (Nat.le_refl _)) hn ha (HB.out.later hbx (Nat.le_refl _)) hm hb)
    have HBX := Lib.hid hbx
    clear hbx
    go_wp2_with fail
    refine (long_any _ [(n, a), (m, b)] 2 (by simp) _ HX.out).mono ?_
    rintro e w2 ⟨⟨b2, rfl, hb2⟩, hw2⟩
    rw [hw2] at HBX
    have z2 : w1.heap.size ≤ w2.heap.size := HBX.out.size
    have HW2 := Lib.hid (HW.out.trans (HBX.out.mono HW.out.size))
    have HT2 := Lib.hid (HT.out.later HBX.out)
    have HL2 := Lib.hid (HL.out.later HBX.out (Nat.le_refl _))
    have HA2 := Lib.hid (HA.out.later HBX.out (Nat.le_refl _))
    have HB2 := Lib.hid (HB.out.later HBX.out (Nat.le_refl _))
    have r0 := (HBX.out.cell (p := ⟨w.heap.size, 0, none⟩) z0).trans q0
    have r1 := (HBX.out.cell (p := ⟨w.heap.size, 1, none⟩) z0).trans q1
    have r2 := (HBX.out.cell (p := ⟨w.heap.size + 1, 0, none⟩) z1).trans q2
    have r3 := (HBX.out.cell (p := ⟨w.heap.size + 1, 1, none⟩) z1).trans q3
    clear hw2 hb2 HX HBX q0 q1 q2 q3 HW HT HL HA HB P0 P1
    cases b2
    case true =>
      go_wp2_with fail
      refine (alive_any _ HT2.out).mono ?_
      rintro e w9 ⟨rfl, hb9⟩
      go_wp2_with fail
      go_ret
      exact ⟨rfl, HW2.out.trans (hb9.mono HW2.out.size)⟩
    case false =>
      go_wp2_with fail
      refine (encode_any L l cl (by omega) _ HT2.out HL2.out).mono ?_
      rintro e w3 ⟨rfl, hb3⟩
      have HW3 := Lib.hid (HW2.out.trans (hb3.mono HW2.out.size))
      have z3 := hb3.size
      have HT3 := Lib.hid (HT2.out.later hb3)
      have HL3 := Lib.hid (HL2.out.later hb3 (Nat.le_refl _))
      have HA3 := Lib.hid (HA2.out.later hb3 (Nat.le_refl _))
      have HB3 := Lib.hid (HB2.out.later hb3 (Nat.le_refl _))
      have s0 := (hb3.cell (p := ⟨w.heap.size, 0, none⟩) (by simp only; omega)).trans r0
      have s1 := (hb3.cell (p := ⟨w.heap.size, 1, none⟩) (by simp only; omega)).trans r1
      have s2 := (hb3.cell (p := ⟨w.heap.size + 1, 0, none⟩) (by simp only; omega)).trans r2
      have s3 := (hb3.cell (p := ⟨w.heap.size + 1, 1, none⟩) (by simp only; omega)).trans r3
      clear r0 r1 r2 r3 hb3 HW2 HT2 HL2 HA2 HB2
      go_wp2_with fail
      refine (refEncode_any L l cl (by omega) _ HL3.out).mono ?_
      rintro e w4 ⟨rfl, hb4⟩
      have HW4 := Lib.hid (HW3.out.trans (hb4.mono HW3.out.size))
      have z4 := hb4.size
      have HT4 := Lib.hid (HT3.out.later hb4)
      have HA4 := Lib.hid (HA3.out.later hb4 (Nat.le_refl _))
      have HB4 := Lib.hid (HB3.out.later hb4 (Nat.le_refl _))
      have t0 := (hb4.cell (p := ⟨w.heap.size, 0, none⟩) (by simp only; omega)).trans s0
      have t1 := (hb4.cell (p := ⟨w.heap.size, 1, none⟩) (by simp only; omega)).trans s1
      have t2 := (hb4.cell (p := ⟨w.heap.size + 1, 0, none⟩) (by simp only; omega)).trans s2
      have t3 := (hb4.cell (p := ⟨w.heap.size + 1, 1, none⟩) (by simp only; omega)).trans s3
      clear s0 s1 s2 s3 hb4 HW3 HT3 HL3 HA3 HB3
      generalize encodeL l = r at *
      obtain ⟨rb, re⟩ := r
      simp only
      go_wp2_with fail
      refine (form_any op hop _ HT4.out).mono ?_
      rintro e w5 ⟨rfl, hb5⟩
      have HW5 := Lib.hid (HW4.out.trans (hb5.mono HW4.out.size))
      have z5 := hb5.size
      have HT5 := Lib.hid (HT4.out.later hb5)
      have HA5 := Lib.hid (HA4.out.later hb5 (Nat.le_refl _))
      have HB5 := Lib.hid (HB4.out.later hb5 (Nat.le_refl _))
      have s0 := (hb5.cell (p := ⟨w.heap.size, 0, none⟩) (by simp only; omega)).trans t0
      have s1 := (hb5.cell (p := ⟨w.heap.size, 1, none⟩) (by simp only; omega)).trans t1
      have s2 := (hb5.cell (p := ⟨w.heap.size + 1, 0, none⟩) (by simp only; omega)).trans t2
      have s3 := (hb5.cell (p := ⟨w.heap.size + 1, 1, none⟩) (by simp only; omega)).trans t3
      clear t0 t1 t2 t3 hb5 HW4 HT4 HA4 HB4
      have y0 : w.heap.size < w5.heap.size := by omega
      have y1 : w.heap.size + 1 < w5.heap.size := by omega
      go_wp2_with fail
      refine (refForm op hop _).mono ?_
      rintro e w6 ⟨rfl, rfl⟩
      go_wp2_with fail
      refine wp_region_grow (by kernel_rfl) (by kernel_rfl) ?_
      repeat (first | go_big_quiet_step (first
        | (refine quiet_grow (size_as n hn A a ca ha _ (HT5.out.later (growN_below w5 _)) (HA5.out.later (growN_below w5 _) (Nat.le_refl _))))
        | (refine quiet_grow (refSize_any n hn A a ca ha _ (HA5.out.later (growN_below w5 _) (Nat.le_refl _))))
        | (refine quiet_grow (codeSame_any n m A B a b ca cb ha hb _ (HA5.out.later (growN_below w5 _) (Nat.le_refl _)) (HB5.out.later (growN_below w5 _) (Nat.le_refl _))))
        | (refine quiet_grow (same_any n m A B a b ca cb ha hb _ (HA5.out.later (growN_below w5 _) (Nat.le_refl _)) (HB5.out.later (growN_below w5 _) (Nat.le_refl _))))
        | (refine quiet_grow (name_any op hop _ (HT5.out.later (growN_below w5 _))))
        | (refine quiet_grow (refName_any op hop _))
        | (refine quiet_grow (alive_any _ (HT5.out.later (growN_below w5 _))))))
      refine wpQuiet_nil ?_
      rintro _ ⟨gx, rfl⟩
      have hq := growN_below w5 gx
      generalize growN w5 gx = wq at *
      go_wp2_with fail
      go_ret
      exact ⟨rfl, HW5.out.trans (hq.mono HW5.out.size)⟩
end Go.Proofs.YtgcmenjpcgdikaaDoor
