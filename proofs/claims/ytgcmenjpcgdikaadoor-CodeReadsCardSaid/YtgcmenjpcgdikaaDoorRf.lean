/- The document's Decode: an instruction out of a text. Conditions: what lies in memory can lie there. -/
import Derived.Test.YtgcmenjpcgdikaaDoorRd
import Derived.Test.YtgcmenjpcgdikaaDoorPu
import Derived.Test.YtgcmenjpcgdikaaDoorCn
namespace Go.Proofs.YtgcmenjpcgdikaaDoor
open Go.RowKit
set_option maxRecDepth 100000

theorem etInts : ET Tryd.prog 23 3 1 8 := et_of Tryd.underlying23 int_info rfl (by omega)
/-- What holds of memory while the document's Decode reads. -/
structure RD (w : World) (op : Nat) (v : Value) (args : List Int) (wr : World) : Prop where
  res : wr.heap[w.heap.size]? = some (.cells #[.int .u8 0, .slice none 0 0] 25 (0, 0))
  ins : wr.heap[w.heap.size + 1]? = some (.cells #[.int .u8 op, v] 25 (0, 0))
  own : wr.ownsRow w.heap.size 3 1 v args.length (args.map (Value.int .i64))
  old : Below w.heap.size w wr
theorem RD.later {w wr wx : World} {op : Nat} {v : Value} {args : List Int} (h : RD w op v args wr) (hb : Below wr.heap.size wr wx) : RD w op v args wx :=
  ⟨(hb.block _ (lt_of_get h.res)).trans h.res, (hb.block _ (lt_of_get h.ins)).trans h.ins, own_later h.own hb, h.old.trans (hb.mono h.old.size)⟩
theorem RD.cells {w wr : World} {op : Nat} {v : Value} {args : List Int} (h : RD w op v args wr) : wr.cell? ⟨w.heap.size, 0, none⟩ = some (.int .u8 0) ∧ wr.cell? ⟨w.heap.size, 1, none⟩ = some (.slice none 0 0) ∧ wr.frozen? ⟨w.heap.size, 0, none⟩ = false ∧ wr.frozen? ⟨w.heap.size, 1, none⟩ = false ∧
    wr.cell? ⟨w.heap.size + 1, 0, none⟩ = some (.int .u8 op) ∧ wr.cell? ⟨w.heap.size + 1, 1, none⟩ = some v ∧ wr.frozen? ⟨w.heap.size + 1, 0, none⟩ = false ∧ wr.frozen? ⟨w.heap.size + 1, 1, none⟩ = false ∧ w.heap.size < wr.heap.size ∧ w.heap.size + 1 < wr.heap.size := by
  refine ⟨?_, ?_, ?_, ?_, ?_, ?_, ?_, ?_, lt_of_get h.res, lt_of_get h.ins⟩
  · unfold World.cell?; rw [h.res]; rfl
  · unfold World.cell?; rw [h.res]; rfl
  · unfold World.frozen?; rw [h.res]; rfl
  · unfold World.frozen?; rw [h.res]; rfl
  · unfold World.cell?; rw [h.ins]; rfl
  · unfold World.cell?; rw [h.ins]; rfl
  · unfold World.frozen?; rw [h.ins]; rfl
  · unfold World.frozen?; rw [h.ins]; rfl
/-- One number more, put behind the others; then stored. -/
theorem RD.append {w w6 w7 : World} {op : Nat} {v v' : Value} {args : List Int} {x : Int} (h : RD w op v args w6) (o : Obj) (hA : App (w6.alloc o) w7 w.heap.size 3 1 v v' (args.length + 1) (args.map (Value.int .i64) ++ [.int .i64 x])) :
    w7.heap[w.heap.size + 1]? = some (.cells #[.int .u8 op, v] 25 (0, 0)) ∧ RD w op v' (args ++ [x]) (w7.setCell ⟨w.heap.size + 1, 1, none⟩ v') := by
  have keep : ∀ (b : Nat) (o' : Obj), w6.heap[b]? = some o' → v.ownBlock ≠ some b → w7.heap[b]? = some o' := fun b o' hb hne =>
    (hA.grown.block b (by simp; have := lt_of_get hb; omega) (fun e => hne e.symm)).trans ((Below.heap_alloc w6 o b (lt_of_get hb)).trans hb)
  have k0 := keep _ _ h.res (own_type_ne h.own h.res (by decide))
  have k1 := keep _ _ h.ins (own_type_ne h.own h.ins (by decide))
  have hgi := own_type_ne hA.own k1 (by decide)
  have hold : Below w.heap.size w w7 := hA.below (h.old.alloc h.old.size o) (by have := h.old.size; simp; omega) (h.own.alloc o) (Nat.le_refl _)
  refine ⟨k1, (Below.heap_setCell _ _ _ _ (by simp)).trans k0, ?_, ?_, hold.setCell (by simp) _⟩
  · simp [World.setCell, Array.getElem?_modify, k1]
  · have h2 := own_set hA.own ⟨w.heap.size + 1, 1, none⟩ v' (by simpa using hgi)
    simpa using h2

/-- What a round's append leaves. -/
def CutR (w : World) (op : Nat) (args : List Int) (wx : World) : Prop := ∃ v, RD w op v args wx
theorem cell_ins0 {w : World} {b : Nat} {x v : Value} {t : TypeId} (h : w.heap[b]? = some (.cells #[x, v] t (0, 0))) : w.cell? ⟨b, 0, none⟩ = some x := by
  unfold World.cell?; rw [h]; rfl
theorem inK_zero (c : UInt8) (hc : letter c) : inK c 0 = true := by rcases hc with rfl | rfl | rfl <;> rfl
theorem refNumber0 (c : UInt8) (hc : letter c) (sz : Nat) (hsz : sizeN c = sz) (w : World) :
    Calls Tryd.prog 31 #[.int .u8 (c.toNat : Int), .int .i64 0] w fun e w' => e = .returned (.slice (some ⟨w.heap.size, 0, none⟩) sz sz) ∧ Below w.heap.size w w' := by
  refine (refNumber c hc 0 (inK_zero c hc) w).mono ?_
  rintro e w' ⟨rfl, rfl⟩
  refine ⟨?_, (Below.refl _ _).alloc (Nat.le_refl _) _⟩
  rw [encArg_len, hsz]

set_option maxHeartbeats 600000 in
theorem refDec_out (s : List UInt8) (_hs : s.length ≤ 4294967296) (at_ : Int) (h : at_ < 0 ∨ (s.length : Int) ≤ at_) (w : World) :
    Calls Tryd.prog 10 #[.string ⟨s.toArray⟩, .int .i64 at_] w (DecEnd w ((0, []), 0, 2)) := by
  by_cases h0 : at_ < 0
  · have d0 : decide (at_ < 0) = true := by simpa using h0
    go_enter Tryd.func10, Tryd.ntmps10
    go_wp2_with fail
    refine bodyPost_ret (v := .tuple #[.agg #[.int .u8 0, .slice none 0 0], .int .i64 0, .int .i64 2]) (by simp [results, Tryd.results10, go_sem]) rfl ⟨_, rfl, ⟨rfl, .inl ⟨rfl, rfl⟩⟩, ?_⟩
    exact (Below.refl _ _).alloc (Nat.le_refl _) _
  · have d0 : decide (at_ < 0) = false := by simpa using h0
    have d1 : decide ((s.length : Int) ≤ at_) = true := by
      rcases h with h | h
      · exact absurd h h0
      · simpa using h
    clear h
    go_enter Tryd.func10, Tryd.ntmps10
    go_wp2_with fail
    refine bodyPost_ret (v := .tuple #[.agg #[.int .u8 0, .slice none 0 0], .int .i64 0, .int .i64 2]) (by simp [results, Tryd.results10, go_sem]) rfl ⟨_, rfl, ⟨rfl, .inl ⟨rfl, rfl⟩⟩, ?_⟩
    exact (Below.refl _ _).alloc (Nat.le_refl _) _

set_option maxHeartbeats 600000 in
theorem refDec_none (s : List UInt8) (_hs : s.length ≤ 4294967296) (k : Nat) (hk : k < s.length) (n : Nat) (hn : (s.getD k 0).toNat = n) (hT : thereB n = false) (w : World) :
    Calls Tryd.prog 10 #[.string ⟨s.toArray⟩, .int .i64 k] w (DecEnd w ((0, []), 0, 160)) := by
  have HN := Lib.hid (show ((⟨s.toArray⟩ : ByteArray)[k]'(by simpa [ByteArray.size] using hk)).toNat = n by
    rw [← hn, List.getD_eq_getElem?_getD, List.getElem?_eq_getElem hk]; rfl)
  clear hn
  have d0 : decide ((k : Int) < 0) = false := by simp
  have d1 : decide ((s.length : Int) ≤ (k : Int)) = false := by simp; omega
  go_enter Tryd.func10, Tryd.ntmps10
  go_wp2_with fail
  rw [HN.out]
  refine (refThere n _).mono ?_
  rintro e w1 ⟨rfl, rfl⟩
  rw [hT]
  go_wp2_with fail
  refine bodyPost_ret (v := .tuple #[.agg #[.int .u8 0, .slice none 0 0], .int .i64 0, .int .i64 160]) (by simp [results, Tryd.results10, go_sem]) rfl ⟨_, rfl, ⟨rfl, .inl ⟨rfl, rfl⟩⟩, ?_⟩
  exact ((Below.refl _ _).alloc (Nat.le_refl _) _).alloc (by simp) _

set_option maxHeartbeats 4000000 in
theorem refDec_main (s : List UInt8) (hs : s.length ≤ 4294967296) (k : Nat) (hk : k < s.length) (n : Nat) (hn : (s.getD k 0).toNat = n) (hT : thereB n = true) (w : World) :
    Calls Tryd.prog 10 #[.string ⟨s.toArray⟩, .int .i64 k] w (DecEnd w (if (stAt n s (k + 1) (endAt n s (k + 1))).bad then ((0, []), 0, 7) else ((n, (stAt n s (k + 1) (endAt n s (k + 1))).args), ((stAt n s (k + 1) (endAt n s (k + 1))).nx : Int), 0))) := by
  have hn2 : n < 256 := by rw [← hn]; exact (s.getD k 0).toNat_lt
  have HN := Lib.hid (show ((⟨s.toArray⟩ : ByteArray)[k]'(by simpa [ByteArray.size] using hk)).toNat = n by
    rw [← hn, List.getD_eq_getElem?_getD, List.getElem?_eq_getElem hk]; rfl)
  clear hn
  have d0 : decide ((k : Int) < 0) = false := by simp
  have d1 : decide ((s.length : Int) ≤ (k : Int)) = false := by simp; omega
  have hf := form_short n
  generalize hres : (if (stAt n s (k + 1) (endAt n s (k + 1))).bad then (((0, []), 0, 7) : InsL × Int × Int) else ((n, (stAt n s (k + 1) (endAt n s (k + 1))).args), ((stAt n s (k + 1) (endAt n s (k + 1))).nx : Int), 0)) = res
  have HRES := Lib.hid hres
  clear hres
  have HSTART := Lib.hid (show RD w n (.slice none 0 0) [] ((w.alloc (.cells #[.int .u8 0, .slice none 0 0] 25)).alloc (.cells #[.int .u8 n, .slice none 0 0] 25)) from
    ⟨(Below.heap_alloc _ _ _ (by simp)).trans (heap_alloc_new _ _), by
      have := heap_alloc_new (w.alloc (.cells #[.int .u8 0, .slice none 0 0] 25)) (.cells #[.int .u8 n, .slice none 0 0] 25)
      rw [World.size_alloc] at this
      exact this, ⟨rfl, .inl ⟨rfl, rfl⟩⟩, ((Below.refl _ _).alloc (Nat.le_refl _) _).alloc (by simp) _⟩)
  go_enter Tryd.func10, Tryd.ntmps10
  go_wp2_with fail
  rw [HN.out]
  refine (refThere n _).mono ?_
  rintro e w1 ⟨rfl, rfl⟩
  rw [hT]
  go_wp2_with fail
  refine (refForm n hn2 _).mono ?_
  rintro e w1 ⟨rfl, hw1⟩
  rw [hw1] at HSTART
  clear hw1
  go_wp2_with fail
  go_loopg [1, 10, 11] 800 (fun g at_ m i wr => ∃ j : Nat, j + g = 800 ∧ j ≤ endAt n s (k + 1) ∧ i = .int .i64 j ∧ m = .int .i64 ((wholeL n (stAt n s (k + 1) j).rows).length : Nat) ∧ at_ = .int .i64 ((stAt n s (k + 1) j).nx : Nat) ∧ (stAt n s (k + 1) j).bad = false ∧
    ∃ v, RD w n v (stAt n s (k + 1) j).args wr)
  case atStart =>
    refine ⟨0, by omega, Nat.zero_le _, rfl, ?_, rfl, rfl, _, HSTART.out⟩
    rw [whole_length]; rfl
  case round =>
    clear HSTART
    obtain ⟨j, hj, hje, rfl, rfl, rfl, hbad, v, hD⟩ := hrel
    have hend := end_few n s (k + 1)
    have hrows := st_rows n s (k + 1) j
    have hnx := st_nx n s (k + 1) (by omega) j
    have HLEN := Lib.hid (st_len n s (k + 1) j)
    have HSTEP := Lib.hid (show stAt n s (k + 1) (j + 1) = stepSt n s j (stAt n s (k + 1) j) from rfl)
    have HMORE := Lib.hid (st_more n s (k + 1) j)
    have HDONE := Lib.hid (fun h => st_done n s (k + 1) j h hje)
    have HBAD := Lib.hid (fun h : (stAt n s (k + 1) (j + 1)).bad = true => fun h2 => st_badR n s (k + 1) (j + 1) h (endAt n s (k + 1)) h2)
    generalize hst : stAt n s (k + 1) j = st at *
    have HST := Lib.hid hst
    have HD := Lib.hid hD
    clear hst hD
    obtain ⟨rows, nx, bad, args⟩ := st
    simp only at hrows hnx HLEN HMORE HDONE HSTEP HD hbad ⊢
    subst hbad
    have hwl : (wholeL n rows).length ≤ 800 := by rw [whole_length]; omega
    have hal : args.length ≤ 800 := by rw [HLEN.out]; omega
    obtain ⟨p0, p1, p2, p3, p4, p5, p6, p7, p8, p9⟩ := HD.out.cells
    by_cases hlt : j < (wholeL n rows).length
    · have HM := Lib.hid (HMORE.out hlt)
      have HKW := Lib.hid (kind_whole n rows j hlt)
      have HC := Lib.hid (kind_letter n j)
      have hjI : (j : Int) < ((wholeL n rows).length : Int) := by omega
      clear HMORE HDONE
      generalize hcc : kindL n j = c at *
      have HCC := Lib.hid hcc
      clear hcc
      have HS60 := Lib.hid (fun h : n = 60 ∧ j = 0 => (show stepSt n s j ⟨rows, nx, false, args⟩ = readRows s (read1 c s ⟨rows, nx, false, args⟩) by unfold stepSt; rw [if_pos h]; simp only; rw [HKW.out]))
      have HSNO := Lib.hid (fun h : ¬ (n = 60 ∧ j = 0) => (show stepSt n s j ⟨rows, nx, false, args⟩ = read1 c s ⟨rows, nx, false, args⟩ by unfold stepSt; rw [if_neg h]; simp only; rw [HKW.out]))
      go_wp2_with fail
      refine (refKind n hn2 j (by omega) _).mono ?_
      rintro e w5 ⟨rfl, rfl⟩
      rw [HCC.out]
      by_cases hfit : s.length < nx + sizeN c
      · have HF := Lib.hid (read1_fails c s ⟨rows, nx, false, args⟩ hfit)
        have HFB : Hid ((stAt n s (k + 1) (j + 1)).bad = true) := by
          show (stAt n s (k + 1) (j + 1)).bad = true
          rw [HSTEP.out]
          by_cases h : n = 60 ∧ j = 0
          · rw [HS60.out h]; exact readRows_badR _ _ HF.out
          · rw [HSNO.out h]; exact HF.out
        have HR := Lib.hid (show res = ((0, []), 0, 7) by rw [← HRES.out, if_pos (HBAD.out HFB.out HM.out)])
        clear HF HFB HRES HS60 HSNO HBAD HSTEP
        have g1 : decide ((s.length : Int) - (nx : Int) < (sizeN c : Int)) = true := by simp; omega
        have g2 : (sizeN c : Int) ≤ 2 := by unfold sizeN; split <;> simp
        go_wp2_with fail
        refine (refNumber0 c HC.out (sizeN c) rfl _).mono ?_
        rintro e w6 ⟨rfl, hb6⟩
        obtain ⟨p0, p1, p2, p3, p4, p5, p6, p7, p8, p9⟩ := (HD.out.later hb6).cells
        have HO := Lib.hid (HD.out.later hb6).old
        clear hb6
        go_wp2_with fail
        refine bodyPost_ret (v := .tuple #[.agg #[.int .u8 0, .slice none 0 0], .int .i64 0, .int .i64 7]) (by simp [results, Tryd.results10, go_sem, p0, p1, p8]) rfl ?_
        rw [HR.out]
        exact ⟨_, rfl, ⟨rfl, .inl ⟨rfl, rfl⟩⟩, (HO.out.setCell (by simp) _).setCell (by simp) _⟩
      · have HGO := Lib.hid (read1_goes c s ⟨rows, nx, false, args⟩ rfl (by simp only; omega))
        have x0lt := (s.getD nx 0).toNat_lt
        have x1lt := (s.getD (nx + 1) 0).toNat_lt
        have hz1 : 1 ≤ sizeN c := by unfold sizeN; split <;> omega
        have hi0 : nx < s.length := by omega
        have hx0 : ((⟨s.toArray⟩ : ByteArray)[nx]'(by simpa [ByteArray.size] using hi0)).toNat = (s.getD nx 0).toNat := by
          rw [List.getD_eq_getElem?_getD, List.getElem?_eq_getElem hi0]; rfl
        have hx1 : ∀ h : nx + 1 < s.length, ((⟨s.toArray⟩ : ByteArray)[nx + 1]'(by simpa [ByteArray.size] using h)).toNat = (s.getD (nx + 1) 0).toNat := fun h => by
          rw [List.getD_eq_getElem?_getD, List.getElem?_eq_getElem h]; rfl
        have HRN := Lib.hid (show readN c s nx = if c = 66 then ((s.getD nx 0).toNat : Int) else if highK c < ((s.getD nx 0).toNat : Int) * 256 + ((s.getD (nx + 1) 0).toNat : Int) then ((s.getD nx 0).toNat : Int) * 256 + ((s.getD (nx + 1) 0).toNat : Int) - 65536 else ((s.getD nx 0).toNat : Int) * 256 + ((s.getD (nx + 1) 0).toNat : Int) from rfl)
        generalize (s.getD nx 0).toNat = x0 at *
        generalize (s.getD (nx + 1) 0).toNat = x1 at *
        have HX1 := Lib.hid hx1
        clear hx1
        have hc4 : c = 66 ∨ c = 87 ∨ (c = 74 ∧ 32767 < 256 * x0 + x1) ∨ (c = 74 ∧ 256 * x0 + x1 ≤ 32767) := by
          rcases HC.out with h | h | h
          · exact .inl h
          · exact .inr (.inl h)
          · rcases Nat.lt_or_ge 32767 (256 * x0 + x1) with h2 | h2
            · exact .inr (.inr (.inl ⟨h, h2⟩))
            · exact .inr (.inr (.inr ⟨h, h2⟩))
        rcases hc4 with hc | hc | ⟨hc, hbig⟩ | ⟨hc, hbig⟩
        · subst hc
          have HV := Lib.hid (show readN 66 s nx = (x0 : Int) by rw [HRN.out]; simp)
          have HSZ := Lib.hid (show sizeN 66 = 1 from rfl)
          have hfit' : nx + 1 ≤ s.length := by have := HSZ.out; omega
          rw [HSZ.out] at HGO
          clear HRN hfit hz1
          have g1 : decide ((s.length : Int) - (nx : Int) < (1 : Int)) = false := by simp; omega
          go_wp2_with fail
          refine (refNumber0 66 HC.out 1 rfl _).mono ?_
          rintro e w6 ⟨rfl, hb6⟩
          have HD6 := Lib.hid (HD.out.later hb6)
          clear hb6 p0 p1 p2 p3 p4 p5 p6 p7 p8 p9
          obtain ⟨p0, p1, p2, p3, p4, p5, p6, p7, p8, p9⟩ := HD6.out.cells
          go_upto_region 21 with (fail)
          go_cut [] (fun wx => CutR w n (args ++ [readN 66 s nx]) wx)
          case first =>
            go_wp2_with (at_builtin; refine wpList_app etInts rfl _ _ rfl w.heap.size v args.length (args.map (Value.int .i64)) rfl (HD6.out.own.alloc _) _ 1 [.int .i64 ((x0 : Int))] rfl (src_new etInts w6 #[.int .i64 ((x0 : Int))] 3 1 1 rfl (by simp [Value.oneCell'])) (by omega) (by unfold maxLen; omega) (by have := HD6.out.old.size; simp; omega) ?_; intro v8 w8 hA8; obtain ⟨A8, c8, rfl⟩ := own_slice' hA8.own; have K8 := Lib.hid (HD6.out.append _ hA8); have i8 := cell_ins1 K8.out.1; have f8 := frozen_ins1 K8.out.1; have z8 := lt_of_get K8.out.1; clear hA8)
            go_meet
            rw [HV.out]
            exact ⟨_, K8.out.2⟩
          case rest =>
            obtain ⟨v9, hD9⟩ := hcut
            have HD9 := Lib.hid hD9
            clear hD9 HD6 HD p0 p1 p2 p3 p4 p5 p6 p7 p8 p9
            obtain ⟨p0, p1, p2, p3, p4, p5, p6, p7, p8, p9⟩ := HD9.out.cells
            by_cases h60 : n = 60 ∧ j = 0
            · have b1 : ((n : Int) == 60) = true := by simp; omega
              have b2 : ((j : Int) == 0) = true := by simp; omega
              have HS6 := Lib.hid (HS60.out h60)
              clear HS60 HSNO h60
              rw [HGO.out] at HS6
              by_cases hr : s.length ≤ nx + 1
              · have HFB : Hid ((stAt n s (k + 1) (j + 1)).bad = true) := by
                  show (stAt n s (k + 1) (j + 1)).bad = true
                  rw [HSTEP.out, HS6.out]; exact readRows_fails _ _ hr
                have HR := Lib.hid (show res = ((0, []), 0, 7) by rw [← HRES.out, if_pos (HBAD.out HFB.out HM.out)])
                have g3 : decide ((s.length : Int) ≤ (nx : Int) + 1) = true := by simp; omega
                have HO := Lib.hid HD9.out.old
                go_wp2_with fail
                refine bodyPost_ret (v := .tuple #[.agg #[.int .u8 0, .slice none 0 0], .int .i64 0, .int .i64 7]) (by simp [results, Tryd.results10, go_sem, p0, p1, p8]) rfl ?_
                rw [HR.out]
                exact ⟨_, rfl, ⟨rfl, .inl ⟨rfl, rfl⟩⟩, (HO.out.setCell (by simp) _).setCell (by simp) _⟩
              · have hr' : nx + 1 < s.length := by omega
                have g3 : decide ((s.length : Int) ≤ (nx : Int) + 1) = false := by simp; omega
                have r0lt := (s.getD (nx + 1) 0).toNat_lt
                have hr0 : ((⟨s.toArray⟩ : ByteArray)[nx + 1]'(by simpa [ByteArray.size] using hr')).toNat = (s.getD (nx + 1) 0).toNat := by
                  rw [List.getD_eq_getElem?_getD, List.getElem?_eq_getElem hr']; rfl
                rw [readRows_goes _ _ rfl hr'] at HS6
                simp only at HS6
                have HR0 : Hid (rows = 0) := by
                  show rows = 0
                  have hj0 : j = 0 := by simpa using b2
                  have := HST.out
                  rw [hj0] at this
                  exact (congrArg RSt.rows this).symm
                have HW0 := Lib.hid (whole_length n rows)
                have HW1 := Lib.hid (whole_length n (s.getD (nx + 1) 0).toNat)
                generalize (s.getD (nx + 1) 0).toNat = r0 at *
                go_wp2_with fail
                go_roundg (gk - 1)
                case measure => omega
                case rel =>
                  refine ⟨j + 1, by omega, HM.out, by go_num, ?_, ?_, ?_, v9, ?_⟩
                  · rw [HSTEP.out, HS6.out]
                    refine vint ?_
                    have h0 := HR0.out
                    have h1 := HW0.out
                    have h2 := HW1.out
                    simp only
                    omega
                  · rw [HSTEP.out, HS6.out]; exact vint (by simp only; omega)
                  · rw [HSTEP.out, HS6.out]
                  · rw [HSTEP.out, HS6.out]; exact HD9.out
            · have b2' : (((n : Int) == 60) = true ∧ ((j : Int) == 0) = false) ∨ ((n : Int) == 60) = false := by
                by_cases h : n = 60
                · left; refine ⟨by simp [h], ?_⟩; have : j ≠ 0 := fun h0 => h60 ⟨h, h0⟩; simp; omega
                · right; simp; omega
              have HS6 := Lib.hid (HSNO.out h60)
              clear HS60 HSNO h60
              rw [HGO.out] at HS6
              rcases b2' with ⟨b1, b2⟩ | b1
              all_goals
                go_wp2_with fail
                go_roundg (gk - 1)
                case measure => omega
                case rel =>
                  refine ⟨j + 1, by omega, HM.out, by go_num, ?_, ?_, ?_, v9, ?_⟩
                  · rw [HSTEP.out, HS6.out]
                  · rw [HSTEP.out, HS6.out]; exact vint (by simp only; omega)
                  · rw [HSTEP.out, HS6.out]
                  · rw [HSTEP.out, HS6.out]; exact HD9.out
        · subst hc
          have HV := Lib.hid (show readN 87 s nx = 256 * (x0 : Int) + (x1 : Int) by rw [HRN.out]; rw [if_neg (by decide), if_neg (by show ¬ ((65535 : Int) < _); omega)]; omega)
          have HSZ := Lib.hid (show sizeN 87 = 2 from rfl)
          have hfit' : nx + 2 ≤ s.length := by have := HSZ.out; omega
          rw [HSZ.out] at HGO
          clear HRN hfit hz1
          have hx1 := HX1.out (by omega)
          have g1 : decide ((s.length : Int) - (nx : Int) < (2 : Int)) = false := by simp; omega
          go_wp2_with fail
          refine (refNumber0 87 HC.out 2 rfl _).mono ?_
          rintro e w6 ⟨rfl, hb6⟩
          have HD6 := Lib.hid (HD.out.later hb6)
          clear hb6 p0 p1 p2 p3 p4 p5 p6 p7 p8 p9
          obtain ⟨p0, p1, p2, p3, p4, p5, p6, p7, p8, p9⟩ := HD6.out.cells
          go_upto_region 21 with (fail)
          go_cut [] (fun wx => CutR w n (args ++ [readN 87 s nx]) wx)
          case first =>
            go_wp2_with (at_builtin; refine wpList_app etInts rfl _ _ rfl w.heap.size v args.length (args.map (Value.int .i64)) rfl (HD6.out.own.alloc _) _ 1 [.int .i64 (256 * (x0 : Int) + (x1 : Int))] rfl (src_new etInts w6 #[.int .i64 (256 * (x0 : Int) + (x1 : Int))] 3 1 1 rfl (by simp [Value.oneCell'])) (by omega) (by unfold maxLen; omega) (by have := HD6.out.old.size; simp; omega) ?_; intro v8 w8 hA8; obtain ⟨A8, c8, rfl⟩ := own_slice' hA8.own; have K8 := Lib.hid (HD6.out.append _ hA8); have i8 := cell_ins1 K8.out.1; have f8 := frozen_ins1 K8.out.1; have z8 := lt_of_get K8.out.1; clear hA8)
            go_meet
            rw [HV.out]
            exact ⟨_, K8.out.2⟩
          case rest =>
            obtain ⟨v9, hD9⟩ := hcut
            have HD9 := Lib.hid hD9
            clear hD9 HD6 HD p0 p1 p2 p3 p4 p5 p6 p7 p8 p9
            obtain ⟨p0, p1, p2, p3, p4, p5, p6, p7, p8, p9⟩ := HD9.out.cells
            by_cases h60 : n = 60 ∧ j = 0
            · have b1 : ((n : Int) == 60) = true := by simp; omega
              have b2 : ((j : Int) == 0) = true := by simp; omega
              have HS6 := Lib.hid (HS60.out h60)
              clear HS60 HSNO h60
              rw [HGO.out] at HS6
              by_cases hr : s.length ≤ nx + 2
              · have HFB : Hid ((stAt n s (k + 1) (j + 1)).bad = true) := by
                  show (stAt n s (k + 1) (j + 1)).bad = true
                  rw [HSTEP.out, HS6.out]; exact readRows_fails _ _ hr
                have HR := Lib.hid (show res = ((0, []), 0, 7) by rw [← HRES.out, if_pos (HBAD.out HFB.out HM.out)])
                have g3 : decide ((s.length : Int) ≤ (nx : Int) + 2) = true := by simp; omega
                have HO := Lib.hid HD9.out.old
                go_wp2_with fail
                refine bodyPost_ret (v := .tuple #[.agg #[.int .u8 0, .slice none 0 0], .int .i64 0, .int .i64 7]) (by simp [results, Tryd.results10, go_sem, p0, p1, p8]) rfl ?_
                rw [HR.out]
                exact ⟨_, rfl, ⟨rfl, .inl ⟨rfl, rfl⟩⟩, (HO.out.setCell (by simp) _).setCell (by simp) _⟩
              · have hr' : nx + 2 < s.length := by omega
                have g3 : decide ((s.length : Int) ≤ (nx : Int) + 2) = false := by simp; omega
                have r0lt := (s.getD (nx + 2) 0).toNat_lt
                have hr0 : ((⟨s.toArray⟩ : ByteArray)[nx + 2]'(by simpa [ByteArray.size] using hr')).toNat = (s.getD (nx + 2) 0).toNat := by
                  rw [List.getD_eq_getElem?_getD, List.getElem?_eq_getElem hr']; rfl
                rw [readRows_goes _ _ rfl hr'] at HS6
                simp only at HS6
                have HR0 : Hid (rows = 0) := by
                  show rows = 0
                  have hj0 : j = 0 := by simpa using b2
                  have := HST.out
                  rw [hj0] at this
                  exact (congrArg RSt.rows this).symm
                have HW0 := Lib.hid (whole_length n rows)
                have HW1 := Lib.hid (whole_length n (s.getD (nx + 2) 0).toNat)
                generalize (s.getD (nx + 2) 0).toNat = r0 at *
                go_wp2_with fail
                go_roundg (gk - 1)
                case measure => omega
                case rel =>
                  refine ⟨j + 1, by omega, HM.out, by go_num, ?_, ?_, ?_, v9, ?_⟩
                  · rw [HSTEP.out, HS6.out]
                    refine vint ?_
                    have h0 := HR0.out
                    have h1 := HW0.out
                    have h2 := HW1.out
                    simp only
                    omega
                  · rw [HSTEP.out, HS6.out]; exact vint (by simp only; omega)
                  · rw [HSTEP.out, HS6.out]
                  · rw [HSTEP.out, HS6.out]; exact HD9.out
            · have b2' : (((n : Int) == 60) = true ∧ ((j : Int) == 0) = false) ∨ ((n : Int) == 60) = false := by
                by_cases h : n = 60
                · left; refine ⟨by simp [h], ?_⟩; have : j ≠ 0 := fun h0 => h60 ⟨h, h0⟩; simp; omega
                · right; simp; omega
              have HS6 := Lib.hid (HSNO.out h60)
              clear HS60 HSNO h60
              rw [HGO.out] at HS6
              rcases b2' with ⟨b1, b2⟩ | b1
              all_goals
                go_wp2_with fail
                go_roundg (gk - 1)
                case measure => omega
                case rel =>
                  refine ⟨j + 1, by omega, HM.out, by go_num, ?_, ?_, ?_, v9, ?_⟩
                  · rw [HSTEP.out, HS6.out]
                  · rw [HSTEP.out, HS6.out]; exact vint (by simp only; omega)
                  · rw [HSTEP.out, HS6.out]
                  · rw [HSTEP.out, HS6.out]; exact HD9.out
        · subst hc
          have HV := Lib.hid (show readN 74 s nx = 256 * (x0 : Int) + (x1 : Int) - 65536 by rw [HRN.out]; rw [if_neg (by decide), if_pos (by show (32767 : Int) < _; omega)]; omega)
          have HSZ := Lib.hid (show sizeN 74 = 2 from rfl)
          have hfit' : nx + 2 ≤ s.length := by have := HSZ.out; omega
          rw [HSZ.out] at HGO
          clear HRN hfit hz1
          have hx1 := HX1.out (by omega)
          have hbig' : (32767 : Int) < 256 * (x0 : Int) + (x1 : Int) := by omega
          have g1 : decide ((s.length : Int) - (nx : Int) < (2 : Int)) = false := by simp; omega
          go_wp2_with fail
          refine (refNumber0 74 HC.out 2 rfl _).mono ?_
          rintro e w6 ⟨rfl, hb6⟩
          have HD6 := Lib.hid (HD.out.later hb6)
          clear hb6 p0 p1 p2 p3 p4 p5 p6 p7 p8 p9
          obtain ⟨p0, p1, p2, p3, p4, p5, p6, p7, p8, p9⟩ := HD6.out.cells
          go_upto_region 21 with (fail)
          go_cut [] (fun wx => CutR w n (args ++ [readN 74 s nx]) wx)
          case first =>
            go_wp2_with (at_builtin; refine wpList_app etInts rfl _ _ rfl w.heap.size v args.length (args.map (Value.int .i64)) rfl (HD6.out.own.alloc _) _ 1 [.int .i64 (256 * (x0 : Int) + (x1 : Int) - 65536)] rfl (src_new etInts w6 #[.int .i64 (256 * (x0 : Int) + (x1 : Int) - 65536)] 3 1 1 rfl (by simp [Value.oneCell'])) (by omega) (by unfold maxLen; omega) (by have := HD6.out.old.size; simp; omega) ?_; intro v8 w8 hA8; obtain ⟨A8, c8, rfl⟩ := own_slice' hA8.own; have K8 := Lib.hid (HD6.out.append _ hA8); have i8 := cell_ins1 K8.out.1; have f8 := frozen_ins1 K8.out.1; have z8 := lt_of_get K8.out.1; clear hA8)
            go_meet
            rw [HV.out]
            exact ⟨_, K8.out.2⟩
          case rest =>
            obtain ⟨v9, hD9⟩ := hcut
            have HD9 := Lib.hid hD9
            clear hD9 HD6 HD p0 p1 p2 p3 p4 p5 p6 p7 p8 p9
            obtain ⟨p0, p1, p2, p3, p4, p5, p6, p7, p8, p9⟩ := HD9.out.cells
            by_cases h60 : n = 60 ∧ j = 0
            · have b1 : ((n : Int) == 60) = true := by simp; omega
              have b2 : ((j : Int) == 0) = true := by simp; omega
              have HS6 := Lib.hid (HS60.out h60)
              clear HS60 HSNO h60
              rw [HGO.out] at HS6
              by_cases hr : s.length ≤ nx + 2
              · have HFB : Hid ((stAt n s (k + 1) (j + 1)).bad = true) := by
                  show (stAt n s (k + 1) (j + 1)).bad = true
                  rw [HSTEP.out, HS6.out]; exact readRows_fails _ _ hr
                have HR := Lib.hid (show res = ((0, []), 0, 7) by rw [← HRES.out, if_pos (HBAD.out HFB.out HM.out)])
                have g3 : decide ((s.length : Int) ≤ (nx : Int) + 2) = true := by simp; omega
                have HO := Lib.hid HD9.out.old
                go_wp2_with fail
                refine bodyPost_ret (v := .tuple #[.agg #[.int .u8 0, .slice none 0 0], .int .i64 0, .int .i64 7]) (by simp [results, Tryd.results10, go_sem, p0, p1, p8]) rfl ?_
                rw [HR.out]
                exact ⟨_, rfl, ⟨rfl, .inl ⟨rfl, rfl⟩⟩, (HO.out.setCell (by simp) _).setCell (by simp) _⟩
              · have hr' : nx + 2 < s.length := by omega
                have g3 : decide ((s.length : Int) ≤ (nx : Int) + 2) = false := by simp; omega
                have r0lt := (s.getD (nx + 2) 0).toNat_lt
                have hr0 : ((⟨s.toArray⟩ : ByteArray)[nx + 2]'(by simpa [ByteArray.size] using hr')).toNat = (s.getD (nx + 2) 0).toNat := by
                  rw [List.getD_eq_getElem?_getD, List.getElem?_eq_getElem hr']; rfl
                rw [readRows_goes _ _ rfl hr'] at HS6
                simp only at HS6
                have HR0 : Hid (rows = 0) := by
                  show rows = 0
                  have hj0 : j = 0 := by simpa using b2
                  have := HST.out
                  rw [hj0] at this
                  exact (congrArg RSt.rows this).symm
                have HW0 := Lib.hid (whole_length n rows)
                have HW1 := Lib.hid (whole_length n (s.getD (nx + 2) 0).toNat)
                generalize (s.getD (nx + 2) 0).toNat = r0 at *
                go_wp2_with fail
                go_roundg (gk - 1)
                case measure => omega
                case rel =>
                  refine ⟨j + 1, by omega, HM.out, by go_num, ?_, ?_, ?_, v9, ?_⟩
                  · rw [HSTEP.out, HS6.out]
                    refine vint ?_
                    have h0 := HR0.out
                    have h1 := HW0.out
                    have h2 := HW1.out
                    simp only
                    omega
                  · rw [HSTEP.out, HS6.out]; exact vint (by simp only; omega)
                  · rw [HSTEP.out, HS6.out]
                  · rw [HSTEP.out, HS6.out]; exact HD9.out
            · have b2' : (((n : Int) == 60) = true ∧ ((j : Int) == 0) = false) ∨ ((n : Int) == 60) = false := by
                by_cases h : n = 60
                · left; refine ⟨by simp [h], ?_⟩; have : j ≠ 0 := fun h0 => h60 ⟨h, h0⟩; simp; omega
                · right; simp; omega
              have HS6 := Lib.hid (HSNO.out h60)
              clear HS60 HSNO h60
              rw [HGO.out] at HS6
              rcases b2' with ⟨b1, b2⟩ | b1
              all_goals
                go_wp2_with fail
                go_roundg (gk - 1)
                case measure => omega
                case rel =>
                  refine ⟨j + 1, by omega, HM.out, by go_num, ?_, ?_, ?_, v9, ?_⟩
                  · rw [HSTEP.out, HS6.out]
                  · rw [HSTEP.out, HS6.out]; exact vint (by simp only; omega)
                  · rw [HSTEP.out, HS6.out]
                  · rw [HSTEP.out, HS6.out]; exact HD9.out
        · subst hc
          have HV := Lib.hid (show readN 74 s nx = 256 * (x0 : Int) + (x1 : Int) by rw [HRN.out]; rw [if_neg (by decide), if_neg (by show ¬ ((32767 : Int) < _); omega)]; omega)
          have HSZ := Lib.hid (show sizeN 74 = 2 from rfl)
          have hfit' : nx + 2 ≤ s.length := by have := HSZ.out; omega
          rw [HSZ.out] at HGO
          clear HRN hfit hz1
          have hx1 := HX1.out (by omega)
          have hbig' : 256 * (x0 : Int) + (x1 : Int) ≤ 32767 := by omega
          have g1 : decide ((s.length : Int) - (nx : Int) < (2 : Int)) = false := by simp; omega
          go_wp2_with fail
          refine (refNumber0 74 HC.out 2 rfl _).mono ?_
          rintro e w6 ⟨rfl, hb6⟩
          have HD6 := Lib.hid (HD.out.later hb6)
          clear hb6 p0 p1 p2 p3 p4 p5 p6 p7 p8 p9
          obtain ⟨p0, p1, p2, p3, p4, p5, p6, p7, p8, p9⟩ := HD6.out.cells
          go_upto_region 21 with (fail)
          go_cut [] (fun wx => CutR w n (args ++ [readN 74 s nx]) wx)
          case first =>
            go_wp2_with (at_builtin; refine wpList_app etInts rfl _ _ rfl w.heap.size v args.length (args.map (Value.int .i64)) rfl (HD6.out.own.alloc _) _ 1 [.int .i64 (256 * (x0 : Int) + (x1 : Int))] rfl (src_new etInts w6 #[.int .i64 (256 * (x0 : Int) + (x1 : Int))] 3 1 1 rfl (by simp [Value.oneCell'])) (by omega) (by unfold maxLen; omega) (by have := HD6.out.old.size; simp; omega) ?_; intro v8 w8 hA8; obtain ⟨A8, c8, rfl⟩ := own_slice' hA8.own; have K8 := Lib.hid (HD6.out.append _ hA8); have i8 := cell_ins1 K8.out.1; have f8 := frozen_ins1 K8.out.1; have z8 := lt_of_get K8.out.1; clear hA8)
            go_meet
            rw [HV.out]
            exact ⟨_, K8.out.2⟩
          case rest =>
            obtain ⟨v9, hD9⟩ := hcut
            have HD9 := Lib.hid hD9
            clear hD9 HD6 HD p0 p1 p2 p3 p4 p5 p6 p7 p8 p9
            obtain ⟨p0, p1, p2, p3, p4, p5, p6, p7, p8, p9⟩ := HD9.out.cells
            by_cases h60 : n = 60 ∧ j = 0
            · have b1 : ((n : Int) == 60) = true := by simp; omega
              have b2 : ((j : Int) == 0) = true := by simp; omega
              have HS6 := Lib.hid (HS60.out h60)
              clear HS60 HSNO h60
              rw [HGO.out] at HS6
              by_cases hr : s.length ≤ nx + 2
              · have HFB : Hid ((stAt n s (k + 1) (j + 1)).bad = true) := by
                  show (stAt n s (k + 1) (j + 1)).bad = true
                  rw [HSTEP.out, HS6.out]; exact readRows_fails _ _ hr
                have HR := Lib.hid (show res = ((0, []), 0, 7) by rw [← HRES.out, if_pos (HBAD.out HFB.out HM.out)])
                have g3 : decide ((s.length : Int) ≤ (nx : Int) + 2) = true := by simp; omega
                have HO := Lib.hid HD9.out.old
                go_wp2_with fail
                refine bodyPost_ret (v := .tuple #[.agg #[.int .u8 0, .slice none 0 0], .int .i64 0, .int .i64 7]) (by simp [results, Tryd.results10, go_sem, p0, p1, p8]) rfl ?_
                rw [HR.out]
                exact ⟨_, rfl, ⟨rfl, .inl ⟨rfl, rfl⟩⟩, (HO.out.setCell (by simp) _).setCell (by simp) _⟩
              · have hr' : nx + 2 < s.length := by omega
                have g3 : decide ((s.length : Int) ≤ (nx : Int) + 2) = false := by simp; omega
                have r0lt := (s.getD (nx + 2) 0).toNat_lt
                have hr0 : ((⟨s.toArray⟩ : ByteArray)[nx + 2]'(by simpa [ByteArray.size] using hr')).toNat = (s.getD (nx + 2) 0).toNat := by
                  rw [List.getD_eq_getElem?_getD, List.getElem?_eq_getElem hr']; rfl
                rw [readRows_goes _ _ rfl hr'] at HS6
                simp only at HS6
                have HR0 : Hid (rows = 0) := by
                  show rows = 0
                  have hj0 : j = 0 := by simpa using b2
                  have := HST.out
                  rw [hj0] at this
                  exact (congrArg RSt.rows this).symm
                have HW0 := Lib.hid (whole_length n rows)
                have HW1 := Lib.hid (whole_length n (s.getD (nx + 2) 0).toNat)
                generalize (s.getD (nx + 2) 0).toNat = r0 at *
                go_wp2_with fail
                go_roundg (gk - 1)
                case measure => omega
                case rel =>
                  refine ⟨j + 1, by omega, HM.out, by go_num, ?_, ?_, ?_, v9, ?_⟩
                  · rw [HSTEP.out, HS6.out]
                    refine vint ?_
                    have h0 := HR0.out
                    have h1 := HW0.out
                    have h2 := HW1.out
                    simp only
                    omega
                  · rw [HSTEP.out, HS6.out]; exact vint (by simp only; omega)
                  · rw [HSTEP.out, HS6.out]
                  · rw [HSTEP.out, HS6.out]; exact HD9.out
            · have b2' : (((n : Int) == 60) = true ∧ ((j : Int) == 0) = false) ∨ ((n : Int) == 60) = false := by
                by_cases h : n = 60
                · left; refine ⟨by simp [h], ?_⟩; have : j ≠ 0 := fun h0 => h60 ⟨h, h0⟩; simp; omega
                · right; simp; omega
              have HS6 := Lib.hid (HSNO.out h60)
              clear HS60 HSNO h60
              rw [HGO.out] at HS6
              rcases b2' with ⟨b1, b2⟩ | b1
              all_goals
                go_wp2_with fail
                go_roundg (gk - 1)
                case measure => omega
                case rel =>
                  refine ⟨j + 1, by omega, HM.out, by go_num, ?_, ?_, ?_, v9, ?_⟩
                  · rw [HSTEP.out, HS6.out]
                  · rw [HSTEP.out, HS6.out]; exact vint (by simp only; omega)
                  · rw [HSTEP.out, HS6.out]
                  · rw [HSTEP.out, HS6.out]; exact HD9.out
    · have HEND := Lib.hid (HDONE.out hlt)
      have hnlt : ((wholeL n rows).length : Int) ≤ (j : Int) := by omega
      have HR := Lib.hid (show res = ((n, args), (nx : Int), 0) by rw [← HRES.out, ← HEND.out, HST.out]; rfl)
      clear HEND HRES HDONE HSTEP HMORE HBAD HST
      obtain ⟨vA, c9, rfl⟩ := own_slice' HD.out.own
      have HO := Lib.hid HD.out.own
      have HNE := Lib.hid (own_type_ne HD.out.own HD.out.res (by decide))
      have HB := Lib.hid HD.out.old
      have s0 := setCell_same p0
      go_wp2_with fail
      refine bodyPost_ret (v := .tuple #[.agg #[.int .u8 n, .slice vA args.length c9], .int .i64 nx, .int .i64 0]) (by simp [results, Tryd.results10, go_sem, p0, p1, p4, p5, p8, p9]) rfl ?_
      rw [HR.out]
      exact ⟨_, rfl, own_set (own_set HO.out ⟨w.heap.size, 0, none⟩ _ HNE.out) ⟨w.heap.size, 1, none⟩ _ HNE.out, (HB.out.setCell (by simp) _).setCell (by simp) _⟩
end Go.Proofs.YtgcmenjpcgdikaaDoor
