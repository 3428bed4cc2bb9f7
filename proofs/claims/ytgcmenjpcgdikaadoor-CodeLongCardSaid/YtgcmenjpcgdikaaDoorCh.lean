/- code.one where its numbers are so many as they must be: the loop over the letters. -/
import Derived.Test.YtgcmenjpcgdikaaDoorCg
import Derived.Deep.QuietTactic
import Derived.BigQuiet
import Derived.Test.YtgcmenjpcgdikaaDoorGr
namespace Go.Proofs.YtgcmenjpcgdikaaDoor
open Go.RowKit
set_option maxRecDepth 100000

set_option maxHeartbeats 400000 in
theorem one_few (n : Nat) (hn : n < 256) (hT : thereB n = true) (A : Option Addr) (len cap : Nat) (hl : len ≤ 9223372036854775807) (hR : rowsOk n len = false) (w : World) (ht : Tab w) :
    Calls Tryd.prog 32 #[.agg #[.int .u8 n, .slice A len cap]] w fun e w' => e = .returned (.tuple #[.string ⟨#[]⟩, .int .i64 2]) ∧ Below w.heap.size w w' := by
  have hE : (nameL n).isEmpty = false := by have := name_there n hn; rw [hT] at this; simpa using this
  have hR := Lib.hid hR
  clear hT
  go_enter Tryd.func32, Tryd.ntmps32
  go_wp2_with fail
  refine (rows_any n hn A len cap hl _ (ht.alloc _)).mono ?_
  rintro e w1 ⟨rfl, hb1⟩
  rw [hR.out]
  have ht1 := (ht.alloc _).later hb1
  obtain ⟨c0, c1, hb, hs⟩ := box2 hb1
  clear hb1
  go_wp2_with fail
  refine (numbers_any _).mono ?_
  rintro e w2 ⟨rfl, rfl⟩
  go_wp2_with fail
  refine (name_any n hn _ (ht1.alloc _)).mono ?_
  rintro e w3 ⟨rfl, hb3⟩
  go_wp2_with fail
  go_ret2
  exact ⟨rfl, (hb.alloc (by omega) _).trans (hb3.mono (by simp; omega))⟩

/-- What holds of the world at each round's head: the box of the instruction, the map of the kinds, the iterator at its place; nothing old has turned. -/
def OneInv (w : World) (n : Nat) (A : Option Addr) (len cap m it : Nat) (S : List UInt8) (k : Nat) (wr : World) : Prop :=
  wr.cell? ⟨w.heap.size, 0, none⟩ = some (.int .u8 n) ∧ wr.cell? ⟨w.heap.size, 1, none⟩ = some (.slice A len cap) ∧ wr.heap[m]? = some (.map numEntries 3) ∧
    wr.heap[it]? = some (.stringIter ⟨S.toArray⟩ k) ∧ Below w.heap.size w wr
theorem lt_of_get {α : Type} {a : Array α} {i : Nat} {x : α} (h : a[i]? = some x) : i < a.size := by
  rcases Nat.lt_or_ge i a.size with h1 | h1
  · exact h1
  · rw [Array.getElem?_eq_none h1] at h; cases h
theorem OneInv.step {w wr : World} {n : Nat} {A : Option Addr} {len cap m it : Nat} {S : List UInt8} {k : Nat} (h : OneInv w n A len cap m it S k wr) (h1 : w.heap.size < m) (h2 : m < it) :
    OneInv w n A len cap m it S (k + 1) (wr.iterAt it ⟨S.toArray⟩ (k + 1)) := by
  obtain ⟨c0, c1, hm, hi, hb⟩ := h
  refine ⟨?_, ?_, ?_, Lib.iterAt_heap wr it _ k (k + 1) hi, Lib.below_iterAt hb (by omega) _ _⟩
  · rw [World.cell?_of_block (w := wr) (Lib.iterAt_other wr it w.heap.size _ _ (by omega))]; exact c0
  · rw [World.cell?_of_block (w := wr) (Lib.iterAt_other wr it w.heap.size _ _ (by omega))]; exact c1
  · rw [Lib.iterAt_other wr it m _ _ (by omega)]; exact hm
theorem OneInv.later {w wr wx : World} {n : Nat} {A : Option Addr} {len cap m it : Nat} {S : List UInt8} {k : Nat} (h : OneInv w n A len cap m it S k wr) (h1 : w.heap.size < m) (h2 : m < it) (hx : Below wr.heap.size wr wx) :
    OneInv w n A len cap m it S k wx := by
  obtain ⟨c0, c1, hm, hi, hb⟩ := h
  have hl := lt_of_get hi
  exact ⟨(hx.cell (p := ⟨w.heap.size, 0, none⟩) (by simp; omega)).trans c0, (hx.cell (p := ⟨w.heap.size, 1, none⟩) (by simp; omega)).trans c1,
    (hx.block m (by omega)).trans hm, (hx.block it hl).trans hi, hb.trans (hx.mono (by omega))⟩

theorem next_at {S : List UInt8} (wr : World) (it k : Nat) (h : wr.heap[it]? = some (.stringIter ⟨S.toArray⟩ k)) (hk : k < S.length) (hS : ∀ c ∈ S, letter c) :
    (Instr.next (.pointer (some ⟨it, 0, none⟩)) true 0).run Tryd.prog wr = .ok (.tuple #[.bool true, .int .i64 k, .int .i32 ((S.getD k 0).toNat : Int)]) (wr.iterAt it ⟨S.toArray⟩ (k + 1)) := by
  have e : (S.getD k 0) = S[k] := by rw [List.getD_eq_getElem?_getD, List.getElem?_eq_getElem hk]; rfl
  have hl : S[k].toNat < 128 := by rcases hS _ (List.getElem_mem hk) with h | h | h <;> rw [h] <;> decide
  rw [e]
  exact Lib.run_next_ascii_at wr it ⟨S.toArray⟩ k _ h (by simpa [ByteArray.size] using hk) (by show S.toArray[k].toNat < 128; simpa using hl)

set_option maxHeartbeats 600000 in
theorem one_fill (n : Nat) (hn : n < 256) (hT : thereB n = true) (A : Option Addr) (args : List Int) (cap : Nat) (hl : args.length ≤ 9223372036854775807) (hR : rowsOk n args.length = true) (hr : rowsOf n args.length < 256) (w : World) (ht : Tab w) (hA : Ints w A args) :
    Calls Tryd.prog 32 #[.agg #[.int .u8 n, .slice A args.length cap]] w (OneEnd w (oneL n args)) := by
  have hE : (nameL n).isEmpty = false := by have := name_there n hn; rw [hT] at this; simpa using this
  have hLen := Lib.hid (letters_length n args.length hR)
  have hfew := few_args n args.length hR hr
  have hBad := Lib.hid (fun k => one_bad n args k hT hR)
  have hGood := Lib.hid (fun h => one_good n args hT hR h hr)
  have hR := Lib.hid hR
  clear hT
  go_enter Tryd.func32, Tryd.ntmps32
  go_wp2_with fail
  refine (rows_any n hn A args.length cap hl _ (ht.alloc _)).mono ?_
  rintro e w1 ⟨rfl, hb1⟩
  rw [hR.out]
  have ht1 := (ht.alloc _).later hb1
  obtain ⟨c0, c1, hb, hs⟩ := box2 hb1
  clear hb1
  go_wp2_with fail
  refine (numbers_any _).mono ?_
  rintro e w2 ⟨rfl, rfl⟩
  go_wp2_with fail
  refine (name_any n hn _ (ht1.alloc _)).mono ?_
  rintro e w3 ⟨rfl, hb3⟩
  have ht3 := (ht1.alloc _).later hb3
  have c0 : w3.cell? ⟨w.heap.size, 0, none⟩ = some (.int .u8 n) := by rw [hb3.cell (p := ⟨w.heap.size, 0, none⟩) (by simp; omega), World.cell?_alloc_lt _ _ _ (by simpa using hs)]; exact c0
  have c1 : w3.cell? ⟨w.heap.size, 1, none⟩ = some (.slice A args.length cap) := by rw [hb3.cell (p := ⟨w.heap.size, 1, none⟩) (by simp; omega), World.cell?_alloc_lt _ _ _ (by simpa using hs)]; exact c1
  have hm : w3.heap[w1.heap.size]? = some (.map numEntries 3) := (hb3.block _ (by simp)).trans (heap_alloc_new w1 _)
  have hz3 : w1.heap.size < w3.heap.size := by have := hb3.size; simp at this; omega
  have hb3' : Below w.heap.size w w3 := (hb.alloc (by omega) _).trans (hb3.mono (by simp; omega))
  have hs3 : w.heap.size < w3.heap.size := by omega
  clear hb3 ht1
  have HM := Lib.hid hm
  clear hm
  have hr' : decide (256 ≤ (rowsOf n args.length : Int)) = false := by simp; omega
  go_wp2_with fail
  refine (whole_any n hn (rowsOf n args.length) (by omega) _ (ht3.alloc _)).mono ?_
  rintro e w4 ⟨rfl, hb4⟩
  have hz4 : w3.heap.size < w4.heap.size := by have := hb4.size; simp at this; omega
  have hinv : OneInv w n A args.length cap w1.heap.size w4.heap.size (wholeL n (rowsOf n args.length)) 0 (w4.iter ⟨(wholeL n (rowsOf n args.length)).toArray⟩ 0) := by
    have e4 : Below w3.heap.size w3 w4 := (box_below hb4).1
    have e5 : Below w3.heap.size w3 (w4.iter ⟨(wholeL n (rowsOf n args.length)).toArray⟩ 0) := e4.alloc (by omega) _
    exact ⟨(e5.cell (p := ⟨w.heap.size, 0, none⟩) hs3).trans c0, (e5.cell (p := ⟨w.heap.size, 1, none⟩) hs3).trans c1, (e5.block _ hz3).trans HM.out, World.iter_heap _ _ _, hb3'.trans (e5.mono (by omega))⟩
  have hm4 : w1.heap.size < w4.heap.size := by omega
  have hLet := Lib.hid (letter_at n args.length)
  clear c0 c1 hb4 HM ht3 hb3' hE hb
  have HI := Lib.hid hinv
  clear hinv
  go_wp2_with fail
  go_loopg [7] (args.length) (fun g s wr => ∃ k, k + g = args.length ∧ okTo n args k = true ∧ s = .string ⟨(encTo n args k).toArray⟩ ∧ OneInv w n A args.length cap w1.heap.size w4.heap.size (wholeL n (rowsOf n args.length)) k wr)
  case atStart => exact ⟨0, by omega, rfl, rfl, HI.out⟩
  case round =>
    clear HI
    obtain ⟨k, hk, hok, rfl, hinv⟩ := hrel
    have hS := hLen.out
    by_cases hlt : k < args.length
    · have hc := hLet.out k (by omega)
      have hnext := next_at (S := wholeL n (rowsOf n args.length)) wr w4.heap.size k hinv.2.2.2.1 (by unfold lettersOf at hS; omega) (whole_letters n _)
      have hin1 := hinv.step hs hm4
      obtain ⟨wn, hwn⟩ : ∃ wn : World, wn = wr.iterAt w4.heap.size ⟨(wholeL n (rowsOf n args.length)).toArray⟩ (k + 1) := ⟨_, rfl⟩
      rw [← hwn] at hnext hin1
      clear hwn hinv
      obtain ⟨ba, off, rfl, hba, hx⟩ := hA.at_ hlt
      have hx := (hin1.2.2.2.2.cell (p := ⟨ba, off + k, none⟩) hba).trans hx
      have d0 := hin1.1
      have d1 := hin1.2.1
      have hlook := look_any _ hc wn _ hin1.2.2.1
      have hsn : w.heap.size < wn.heap.size := by have := lt_of_get hin1.2.2.2.1; omega
      have hbn : ba < wn.heap.size := by omega
      unfold lettersOf at hc hlook
      have HIN := Lib.hid hin1
      have HOK := Lib.hid hok
      have HS := Lib.hid hS
      have HC := Lib.hid hc
      clear hin1 hok hS hc hA
      generalize hcc : (wholeL n (rowsOf n args.length)).getD k 0 = c at *
      generalize hxx : args.getD k 0 = x at *
      have HCC := Lib.hid hcc
      have HXX := Lib.hid hxx
      clear hcc hxx
      have hkI : (k : Int) < (args.length : Int) := by omega
      by_cases h1 : x < lowK c
      · have g1 : decide (x < lowK c) = true := by simpa using h1
        go_wp2_with fail
        go_quiet (fail)
        go_wp2_with fail
        go_ret2
        refine ⟨?_, ?_⟩
        · rw [hBad.out k hlt (by unfold lettersOf; rw [HCC.out, HXX.out]; unfold inK; simp; omega)]; rfl
        · exact below_drawn (HIN.out.2.2.2.2.alloc (by omega) _) _
      · have g1 : decide (x < lowK c) = false := by simpa using h1
        by_cases h2 : highK c < x
        · have g2 : decide (highK c < x) = true := by simpa using h2
          go_wp2_with fail
          go_quiet (fail)
          go_wp2_with fail
          go_ret2
          refine ⟨?_, ?_⟩
          · rw [hBad.out k hlt (by unfold lettersOf; rw [HCC.out, HXX.out]; unfold inK; simp; omega)]; rfl
          · exact below_drawn (HIN.out.2.2.2.2.alloc (by omega) _) _
        · have g2 : decide (highK c < x) = false := by simpa using h2
          go_wp2_with fail
          go_quiet (fail)
          go_wp2_with fail
          have q0 := new_cell wn #[.int .i64 (lowK c), .int .i64 (highK c), .int .i64 (sizeK c)] 56 nq 0
          have q1 := new_cell wn #[.int .i64 (lowK c), .int .i64 (highK c), .int .i64 (sizeK c)] 56 nq 1
          have q2 := new_cell wn #[.int .i64 (lowK c), .int .i64 (highK c), .int .i64 (sizeK c)] 56 nq 2
          have qb := Lib.hid (below_drawn ((Below.refl wn.heap.size wn).alloc (Nat.le_refl _) (.cells #[.int .i64 (lowK c), .int .i64 (highK c), .int .i64 (sizeK c)] 56)) nq)
          have qz : wn.heap.size < ((wn.alloc (.cells #[.int .i64 (lowK c), .int .i64 (highK c), .int .i64 (sizeK c)] 56)).drewN nq).heap.size := by simp
          generalize (wn.alloc (.cells #[.int .i64 (lowK c), .int .i64 (highK c), .int .i64 (sizeK c)] 56)).drewN nq = W at *
          have q3 : W.cell? ⟨w.heap.size, 0, none⟩ = some (.int .u8 n) := (qb.out.cell (p := ⟨w.heap.size, 0, none⟩) hsn).trans d0
          have q4 : W.cell? ⟨w.heap.size, 1, none⟩ = some (.slice (some ⟨ba, off, none⟩) args.length cap) := (qb.out.cell (p := ⟨w.heap.size, 1, none⟩) hsn).trans d1
          have q5 : W.cell? ⟨ba, off + k, none⟩ = some (.int .i64 x) := (qb.out.cell (p := ⟨ba, off + k, none⟩) hbn).trans hx
          have q6 : w.heap.size < W.heap.size := by omega
          have q7 : ba < W.heap.size := by omega
          simp at q0 q1 q2
          have hes := encTo_short n args k
          have hel := encArg_short c x
          refine wp_region_grow (by kernel_rfl) (by kernel_rfl) ?_
          repeat (first | go_big_quiet_step ((refine quiet_grow (bytes_any c HC.out x _))))
          refine wpQuiet_nil ?_
          rintro _ ⟨gx, rfl⟩
          have hq := growN_below W gx
          generalize growN W gx = wq at *
          have r3 : wq.cell? ⟨w.heap.size, 0, none⟩ = some (.int .u8 n) := (hq.cell (p := ⟨w.heap.size, 0, none⟩) q6).trans q3
          have hfin : Below wn.heap.size wn wq := qb.out.trans (hq.mono (by omega))
          have HF := Lib.hid hfin
          have HO2 : Hid (okTo n args (k + 1) = true) := by
            show okTo n args (k + 1) = true
            rw [okTo_succ, HOK.out]
            unfold lettersOf
            rw [HCC.out, HXX.out]
            simp [inK, h1, h2]
          have hz9 : wn.heap.size < wq.heap.size := by have := hq.size; omega
          clear q0 q1 q2 q3 q4 q5 hq hfin hlook hnext d0 d1 hx
          by_cases h60 : n = 60
          · by_cases hk0 : k = 0
            · have b1 : ((n : Int) == 60) = true := by simp; omega
              have b2 : ((k : Int) == 0) = true := by simp; omega
              have HE := Lib.hid (encTo_case n args k ⟨h60, hk0⟩)
              have H60 := Lib.hid h60
              have HK0 := Lib.hid hk0
              clear h60 hk0
              go_wp2_with fail
              go_roundg (gk - 1)
              case measure => omega
              case rel =>
                refine ⟨k + 1, by omega, HO2.out, ?_, HIN.out.later hs hm4 (HF.out.alloc (by omega) _)⟩
                rw [HE.out]; unfold lettersOf; rw [HCC.out, HXX.out]
                have e : (rowsOf n args.length : Int) % 256 = (rowsOf n args.length : Int) := by omega
                first | rfl | (rw [e]; rfl) | simp
            · have b1 : ((n : Int) == 60) = true := by simp; omega
              have b2 : ((k : Int) == 0) = false := by simp; omega
              have HE := Lib.hid (encTo_step n args k (fun h => hk0 h.2))
              clear h60 hk0
              go_wp2_with fail
              go_roundg (gk - 1)
              case measure => omega
              case rel => exact ⟨k + 1, by omega, HO2.out, by rw [HE.out]; unfold lettersOf; rw [HCC.out, HXX.out], HIN.out.later hs hm4 HF.out⟩
          · have b1 : ((n : Int) == 60) = false := by simp; omega
            have HE := Lib.hid (encTo_step n args k (fun h => h60 h.1))
            clear h60
            go_wp2_with fail
            go_roundg (gk - 1)
            case measure => omega
            case rel => exact ⟨k + 1, by omega, HO2.out, by rw [HE.out]; unfold lettersOf; rw [HCC.out, HXX.out], HIN.out.later hs hm4 HF.out⟩
    · obtain rfl : k = args.length := by omega
      have hend := Lib.run_next_end_at (P := Tryd.prog) wr w4.heap.size ⟨(wholeL n (rowsOf n args.length)).toArray⟩ args.length 0 hinv.2.2.2.1 (by unfold lettersOf at hS; simp [ByteArray.size]; omega)
      have HB := Lib.hid hinv.2.2.2.2
      have HG := Lib.hid (hGood.out hok)
      clear hinv hS hok hlt hA hk
      go_wp2_with fail
      go_ret2
      exact ⟨by rw [HG.out]; rfl, HB.out⟩
end Go.Proofs.YtgcmenjpcgdikaaDoor
