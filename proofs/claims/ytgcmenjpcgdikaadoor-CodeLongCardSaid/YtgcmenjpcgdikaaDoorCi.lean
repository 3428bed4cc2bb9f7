/- code.one where its rows are too many: the loop that only looks. -/
import Derived.Test.YtgcmenjpcgdikaaDoorCh
namespace Go.Proofs.YtgcmenjpcgdikaaDoor
open Go.RowKit
set_option maxRecDepth 100000

set_option maxHeartbeats 600000 in
theorem one_over (n : Nat) (hn : n < 256) (hT : thereB n = true) (A : Option Addr) (args : List Int) (cap : Nat) (hl : args.length ≤ 17592186044416) (hR : rowsOk n args.length = true) (hr : 256 ≤ rowsOf n args.length) (w : World) (ht : Tab w) (hA : Ints w A args) :
    Calls Tryd.prog 32 #[.agg #[.int .u8 n, .slice A args.length cap]] w (OneEnd w (oneL n args)) := by
  have hE : (nameL n).isEmpty = false := by have := name_there n hn; rw [hT] at this; simpa using this
  have hLen := Lib.hid (letters_length n args.length hR)
  have hrl : rowsOf n args.length ≤ args.length := by unfold rowsOf; split <;> omega
  have hBad := Lib.hid (fun k => one_bad n args k hT hR)
  have hGood := Lib.hid (fun h => one_long n args hT hR h hr)
  have hR := Lib.hid hR
  clear hT
  go_enter Tryd.func32, Tryd.ntmps32
  go_wp2_with fail
  refine (rows_any n hn A args.length cap (by omega) _ (ht.alloc _)).mono ?_
  rintro e w1 ⟨rfl, hb1⟩
  rw [hR.out]
  have ht1 := (ht.alloc _).later hb1
  obtain ⟨c0, c1, hb, hs⟩ := box2 hb1
  clear hb1
  go_wp2_with fail
  refine (numbers_any _).mono ?_
  rintro e w2 ⟨rfl, rfl⟩
  go_wp2_with fail
  refine (name_any n hn _ (ht1.alloc _)).mono ?_
  rintro e w3 ⟨rfl, hb3⟩
  have ht3 := (ht1.alloc _).later hb3
  have c0 : w3.cell? ⟨w.heap.size, 0, none⟩ = some (.int .u8 n) := by rw [hb3.cell (p := ⟨w.heap.size, 0, none⟩) (by simp; omega), World.cell?_alloc_lt _ _ _ (by simpa using hs)]; exact c0
  have c1 : w3.cell? ⟨w.heap.size, 1, none⟩ = some (.slice A args.length cap) := by rw [hb3.cell (p := ⟨w.heap.size, 1, none⟩) (by simp; omega), World.cell?_alloc_lt _ _ _ (by simpa using hs)]; exact c1
  have hm : w3.heap[w1.heap.size]? = some (.map numEntries 3) := (hb3.block _ (by simp)).trans (heap_alloc_new w1 _)
  have hz3 : w1.heap.size < w3.heap.size := by have := hb3.size; simp at this; omega
  have hb3' : Below w.heap.size w w3 := (hb.alloc (by omega) _).trans (hb3.mono (by simp; omega))
  have hs3 : w.heap.size < w3.heap.size := by omega
  clear hb3 ht1
  have HM := Lib.hid hm
  clear hm
  have hr' : decide (256 ≤ (rowsOf n args.length : Int)) = true := by simp; omega
  go_wp2_with fail
  refine (whole_any n hn (rowsOf n args.length) (by omega) _ (ht3.alloc _)).mono ?_
  rintro e w4 ⟨rfl, hb4⟩
  have hz4 : w3.heap.size < w4.heap.size := by have := hb4.size; simp at this; omega
  have hinv : OneInv w n A args.length cap w1.heap.size w4.heap.size (wholeL n (rowsOf n args.length)) 0 (w4.iter ⟨(wholeL n (rowsOf n args.length)).toArray⟩ 0) := by
    have e4 : Below w3.heap.size w3 w4 := (box_below hb4).1
    have e5 : Below w3.heap.size w3 (w4.iter ⟨(wholeL n (rowsOf n args.length)).toArray⟩ 0) := e4.alloc (by omega) _
    exact ⟨(e5.cell (p := ⟨w.heap.size, 0, none⟩) hs3).trans c0, (e5.cell (p := ⟨w.heap.size, 1, none⟩) hs3).trans c1, (e5.block _ hz3).trans HM.out, World.iter_heap _ _ _, hb3'.trans (e5.mono (by omega))⟩
  have hm4 : w1.heap.size < w4.heap.size := by omega
  have hLet := Lib.hid (letter_at n args.length)
  clear c0 c1 hb4 HM ht3 hb3' hE hb
  have HI := Lib.hid hinv
  clear hinv
  go_wp2_with fail
  go_loopg [] (args.length) (fun g wr => ∃ k, k + g = args.length ∧ okTo n args k = true ∧ OneInv w n A args.length cap w1.heap.size w4.heap.size (wholeL n (rowsOf n args.length)) k wr)
  case atStart => exact ⟨0, by omega, rfl, HI.out⟩
  case round =>
    clear HI
    obtain ⟨k, hk, hok, hinv⟩ := hrel
    have hS := hLen.out
    by_cases hlt : k < args.length
    · have hc := hLet.out k (by omega)
      have hnext := next_at (S := wholeL n (rowsOf n args.length)) wr w4.heap.size k hinv.2.2.2.1 (by unfold lettersOf at hS; omega) (whole_letters n _)
      have hin1 := hinv.step hs hm4
      obtain ⟨wn, hwn⟩ : ∃ wn : World, wn = wr.iterAt w4.heap.size ⟨(wholeL n (rowsOf n args.length)).toArray⟩ (k + 1) := ⟨_, rfl⟩
      rw [← hwn] at hnext hin1
      clear hwn hinv
      obtain ⟨ba, off, rfl, hba, hx⟩ := hA.at_ hlt
      have hx := (hin1.2.2.2.2.cell (p := ⟨ba, off + k, none⟩) hba).trans hx
      have d0 := hin1.1
      have d1 := hin1.2.1
      have hlook := look_any _ hc wn _ hin1.2.2.1
      have hsn : w.heap.size < wn.heap.size := by have := lt_of_get hin1.2.2.2.1; omega
      have hbn : ba < wn.heap.size := by omega
      unfold lettersOf at hc hlook
      have HIN := Lib.hid hin1
      have HOK := Lib.hid hok
      have HS := Lib.hid hS
      have HC := Lib.hid hc
      clear hin1 hok hS hc hA
      generalize hcc : (wholeL n (rowsOf n args.length)).getD k 0 = c at *
      generalize hxx : args.getD k 0 = x at *
      have HCC := Lib.hid hcc
      have HXX := Lib.hid hxx
      clear hcc hxx
      have hkI : (k : Int) < (args.length : Int) := by omega
      by_cases h1 : x < lowK c
      · have g1 : decide (x < lowK c) = true := by simpa using h1
        go_wp2_with fail
        go_quiet (fail)
        go_wp2_with fail
        go_ret2
        refine ⟨?_, ?_⟩
        · rw [hBad.out k hlt (by unfold lettersOf; rw [HCC.out, HXX.out]; unfold inK; simp; omega)]; rfl
        · exact below_drawn (HIN.out.2.2.2.2.alloc (by omega) _) _
      · have g1 : decide (x < lowK c) = false := by simpa using h1
        by_cases h2 : highK c < x
        · have g2 : decide (highK c < x) = true := by simpa using h2
          go_wp2_with fail
          go_quiet (fail)
          go_wp2_with fail
          go_ret2
          refine ⟨?_, ?_⟩
          · rw [hBad.out k hlt (by unfold lettersOf; rw [HCC.out, HXX.out]; unfold inK; simp; omega)]; rfl
          · exact below_drawn (HIN.out.2.2.2.2.alloc (by omega) _) _
        · have g2 : decide (highK c < x) = false := by simpa using h2
          go_wp2_with fail
          go_quiet (fail)
          have HF := Lib.hid (below_drawn ((Below.refl wn.heap.size wn).alloc (Nat.le_refl _) (.cells #[.int .i64 (lowK c), .int .i64 (highK c), .int .i64 (sizeK c)] 56)) nq)
          have HO2 : Hid (okTo n args (k + 1) = true) := by
            show okTo n args (k + 1) = true
            rw [okTo_succ, HOK.out]
            unfold lettersOf
            rw [HCC.out, HXX.out]
            simp [inK]
            omega
          go_wp2_with fail
          go_roundg (gk - 1)
          case measure => omega
          case rel => exact ⟨k + 1, by omega, HO2.out, HIN.out.later hs hm4 HF.out⟩
    · obtain rfl : k = args.length := by omega
      have hend := Lib.run_next_end_at (P := Tryd.prog) wr w4.heap.size ⟨(wholeL n (rowsOf n args.length)).toArray⟩ args.length 0 hinv.2.2.2.1 (by unfold lettersOf at hS; simp [ByteArray.size]; omega)
      have HB := Lib.hid hinv.2.2.2.2
      have HG := Lib.hid (hGood.out hok)
      clear hinv hS hok hlt hA hk
      go_wp2_with fail
      go_ret2
      exact ⟨by rw [HG.out]; rfl, HB.out⟩
end Go.Proofs.YtgcmenjpcgdikaaDoor
