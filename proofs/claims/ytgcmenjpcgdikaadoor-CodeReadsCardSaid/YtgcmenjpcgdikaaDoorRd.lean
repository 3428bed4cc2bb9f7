/- The document's one where its numbers are so many as they must be. Condition: what lies in memory can lie there. -/
import Derived.Test.YtgcmenjpcgdikaaDoorRc
import Derived.Test.YtgcmenjpcgdikaaDoorPr
import Derived.Test.YtgcmenjpcgdikaaDoorAp
import Derived.Deep.RegionHeld3
import Derived.Deep.DrawnRows
import Derived.Deep.DeepCutAuto
namespace Go.Proofs.YtgcmenjpcgdikaaDoor
open Go.RowKit
set_option maxRecDepth 100000

/-- What holds at each round's head: the box of the instruction, its numbers; nothing old has turned. -/
structure RefInv (w : World) (n : Nat) (A : Option Addr) (args : List Int) (cap : Nat) (wr : World) : Prop where
  op : wr.cell? ⟨w.heap.size, 0, none⟩ = some (.int .u8 n)
  row : wr.cell? ⟨w.heap.size, 1, none⟩ = some (.slice A args.length cap)
  ints : Ints w A args
  old : Below w.heap.size w wr
  size : w.heap.size < wr.heap.size
theorem RefInv.later {w wr wx : World} {n : Nat} {A : Option Addr} {args : List Int} {cap : Nat} (h : RefInv w n A args cap wr) (hb : Below wr.heap.size wr wx) : RefInv w n A args cap wx :=
  ⟨(hb.cell (p := ⟨w.heap.size, 0, none⟩) h.size).trans h.op, (hb.cell (p := ⟨w.heap.size, 1, none⟩) h.size).trans h.row, h.ints, h.old.trans (hb.mono (Nat.le_of_lt h.size)), Nat.lt_of_lt_of_le h.size hb.size⟩
theorem RefInv.start (w : World) (n : Nat) (A : Option Addr) (args : List Int) (cap : Nat) (hA : Ints w A args) : RefInv w n A args cap (w.alloc (.cells #[.int .u8 n, .slice A args.length cap] 25)) :=
  ⟨by unfold World.cell?; rw [heap_alloc_new]; rfl, by unfold World.cell?; rw [heap_alloc_new]; rfl, hA, (Below.refl _ _).alloc (Nat.le_refl _) _, by simp⟩

/-- .. behind an append onto memory of the call's own. -/
theorem RefInv.grown {w wr w7 : World} {n : Nat} {A : Option Addr} {args : List Int} {cap : Nat} {v : Value} {m : Nat} {xs : List Value} (h : RefInv w n A args cap wr) (hown : wr.ownsRow (w.heap.size + 1) 5 1 v m xs) (hg : wr.grownBy w7 v.ownBlock) : RefInv w n A args cap w7 := by
  have hne : v.ownBlock ≠ some w.heap.size := fun e => by have := (hown.lt _ e).1; omega
  have hb : w7.heap[w.heap.size]? = wr.heap[w.heap.size]? := hg.block _ h.size (fun e => hne e.symm)
  have hold : Below w.heap.size w w7 := h.old.grown hg (Nat.le_of_lt h.size) (fun b hb => by have := (hown.lt _ hb).1; omega)
  refine ⟨(World.cell?_of_block (w := wr) hb).trans h.op, (World.cell?_of_block (w := wr) hb).trans h.row, h.ints, hold, ?_⟩
  have := h.op
  rw [← World.cell?_of_block (w := wr) (w' := w7) hb] at this
  unfold World.cell? at this
  split at this
  · rename_i he; exact lt_of_get he
  · cases this
theorem ok_at (n : Nat) (args : List Int) (h : okTo n args args.length = true) (k : Nat) (hk : k < args.length) : inK ((lettersOf n args.length).getD k 0) (args.getD k 0) = true := by
  unfold okTo at h
  exact List.all_eq_true.1 h k (List.mem_range.2 hk)

theorem refMayAs (d : Bool) (c : UInt8) (hc : letter c) (x : Int) (hd : inK c x = d) (w : World) :
    Calls Tryd.prog 44 #[.int .u8 (c.toNat : Int), .int .i64 x] w fun e w' => e = .returned (.bool d) ∧ w = w' := by
  subst hd; exact refMay c hc x w

set_option maxHeartbeats 4000000 in
theorem refOne_main (n : Nat) (hn : n < 256) (hT : thereB n = true) (A : Option Addr) (args : List Int) (cap : Nat) (hl : args.length ≤ 17592186044416) (hR : rowsOk n args.length = true) (w : World) (hA : Ints w A args) :
    Calls Tryd.prog 37 #[.agg #[.int .u8 n, .slice A args.length cap]] w (RefEnd w (oneL n args)) := by
  have hf := form_short n
  have HL := Lib.hid (fun k hk => kind_letters n args.length k hR hk)
  have hLen := Lib.hid (letters_length n args.length hR)
  have hBad := Lib.hid (fun k => one_bad n args k hT hR)
  have hLong := Lib.hid (fun h => one_long n args hT hR h)
  have hGood := Lib.hid (fun h => one_good n args hT hR h)
  have hmore : (args.length : Int) - ((formL n).length : Int) = 3 * (rowsOf n args.length : Int) ∧ (formL n).length ≤ args.length := by
    unfold rowsOk at hR
    unfold rowsOf
    by_cases h : n = 60
    · subst h
      have h2 : (formL 60).length = 2 := rfl
      simp at hR
      rw [if_pos rfl, h2]
      omega
    · rw [if_neg h] at hR ⊢
      simp at hR
      omega
  obtain ⟨hm1, hm2⟩ := hmore
  have g1 : decide ((args.length : Int) - ((formL n).length : Int) < 0) = false := by simp; omega
  have HI := Lib.hid (RefInv.start w n A args cap hA)
  have HGO : decide ((formL n).length < args.length) = false ∨ ((formL n).length < args.length ∧ ((n : Int) != 60) = false ∧ (((args.length : Int) - ((formL n).length : Int)) % 3 != 0) = false) := by
    by_cases h : (formL n).length < args.length
    · refine .inr ⟨h, ?_, by rw [hm1]; simp⟩
      by_cases h6 : n = 60
      · simp [h6]
      · have : rowsOf n args.length = 0 := by unfold rowsOf; rw [if_neg h6]
        omega
    · exact .inl (by simp; omega)
  have HR := Lib.hid hR
  clear hR hA
  go_enter Tryd.func37, Tryd.ntmps37
  go_wp2_with fail
  refine (refThere n _).mono ?_
  rintro e w' ⟨rfl, rfl⟩
  rw [hT]
  go_wp2_with fail
  refine (refForm n hn _).mono ?_
  rintro e w' ⟨rfl, rfl⟩
  generalize w.alloc (.cells #[.int .u8 n, .slice A args.length cap] 25) = w0 at *
  have p0 := HI.out.op
  have p1 := HI.out.row
  have p2 := HI.out.size
  go_upto_region 5 with (fail)
  go_cut [41] (fun b wx => b = .bool false ∧ wx = w0)
  case first =>
    rcases HGO with h | ⟨h1, h2, h3⟩
    · have h' : ¬ (formL n).length < args.length := by simpa using h
      go_wp2_with fail
      go_meet
      exact ⟨rfl, rfl⟩
    · go_wp2_with fail
      go_meet
      exact ⟨rfl, rfl⟩
  case rest =>
    obtain ⟨rfl, rfl⟩ := hcut
    clear HGO p0 p1 p2 g1
    go_wp2_with fail
    go_loopg [7] (args.length) (fun g i wr => ∃ k : Nat, k + g = args.length ∧ i = .int .i64 k ∧ okTo n args k = true ∧ RefInv w n A args cap wr)
    case atStart => exact ⟨0, by omega, rfl, rfl, HI.out⟩
    case round =>
      clear HI
      obtain ⟨k, hk, rfl, hok, hI⟩ := hrel
      have HOK := Lib.hid hok
      have HI := Lib.hid hI
      have q0 := hI.op
      have q1 := hI.row
      have q2 := hI.size
      by_cases hlt : k < args.length
      · obtain ⟨b1, o1, rfl, l1, q3⟩ := (hI.ints.later hI.old (Nat.le_refl _)).at_ hlt
        have hkI : (k : Int) < (args.length : Int) := by omega
        have HK := Lib.hid (HL.out k hlt)
        have HC := Lib.hid (kind_letter n k)
        clear hI hok
        generalize hx : args.getD k 0 = x at *
        have HX := Lib.hid hx
        clear hx
        generalize hb : inK (kindL n k) x = bb
        have HB := Lib.hid hb
        clear hb
        go_wp2_with fail
        refine wp_region_grow (by kernel_rfl) (by kernel_rfl) ?_
        repeat (first | go_big_quiet_step (first | (refine quiet_same (refKind n hn k (by omega) _)) | (refine quiet_same (refMayAs _ (kindL n k) HC.out x HB.out _))))
        refine wpQuiet_nil ?_
        rintro _ ⟨gx, rfl⟩
        have hq := growN_below wr gx
        generalize growN wr gx = wq at *
        cases bb
        case true =>
          go_wp2_with fail
          go_roundg (gk - 1)
          case measure => omega
          case rel =>
            refine ⟨k + 1, by omega, by go_num, ?_, HI.out.later hq⟩
            rw [okTo_succ, HOK.out, HK.out, HX.out, HB.out]; rfl
        case false =>
          go_wp2_with fail
          go_ret2
          rw [hBad.out k hlt (by rw [HK.out, HX.out, HB.out])]
          exact RefEnd.none _ _ _ (HI.out.later hq).old
      · obtain rfl : k = args.length := by omega
        by_cases hr : 256 ≤ rowsOf n args.length
        · have g5 : decide ((255 : Int) < 3 * (rowsOf n args.length : Int) / 3) = true := by simp; omega
          have HR5 := Lib.hid hr
          go_wp2_with fail
          go_ret2
          rw [hLong.out HOK.out HR5.out]
          exact RefEnd.none _ _ _ HI.out.old
        · have g5 : decide ((255 : Int) < 3 * (rowsOf n args.length : Int) / 3) = false := by simp; omega
          have HG := Lib.hid (hGood.out HOK.out (by omega))
          have hfew := few_args n args.length HR.out (by omega)
          clear hI hok
          go_wp2_with fail
          go_loopg [8, 9] (args.length) (fun g v i wx => ∃ k : Nat, k + g = args.length ∧ i = .int .i64 k ∧ RefInv w n A args cap wx ∧ wx.ownsRow (w.heap.size + 1) 5 1 v (encTo n args k).length (byteVals (encTo n args k)).toList)
          case atStart =>
            refine ⟨0, by omega, rfl, HI.out.later ((Below.refl _ _).alloc (Nat.le_refl _) _), ?_⟩
            have e0 : (UInt8.ofNat n).toNat = n := by rw [show (UInt8.ofNat n).toNat = n % 256 from UInt8.toNat_ofNat]; omega
            refine ⟨by simp [encTo, byteVals], .inr ⟨_, 1, _, rfl, HI.out.size, heap_alloc_new _ _, Nat.le_refl _, by decide, rfl, ?_⟩⟩
            simp [encTo, byteVals, e0]
          case round =>
            clear HI q0 q1 q2
            obtain ⟨k, hk, rfl, hI, hown⟩ := hrel
            have HI := Lib.hid hI
            have HO := Lib.hid hown
            have q0 := hI.op
            have q1 := hI.row
            have q2 := hI.size
            by_cases hlt : k < args.length
            · obtain ⟨b1, o1, rfl, l1, q3w⟩ := hI.ints.at_ hlt
              have q3 := (hI.old.cell (p := ⟨b1, o1 + k, none⟩) l1).trans q3w
              have hkI : (k : Int) < (args.length : Int) := by omega
              have HK := Lib.hid (HL.out k hlt)
              have HC := Lib.hid (kind_letter n k)
              have HIN := Lib.hid (ok_at n args HOK.out k hlt)
              rw [HK.out] at HIN
              have HE1 := Lib.hid (fun h => encTo_case n args k h)
              have HE2 := Lib.hid (fun h => encTo_step n args k h)
              rw [HK.out] at HE1 HE2
              have hes := encTo_short n args k
              have hel := encArg_short (kindL n k) (args.getD k 0)
              have heq := encArg_len (kindL n k) (args.getD k 0)
              obtain ⟨i0, hi0, hz0, hz1, hz2⟩ := info_parts byte_info
              clear hI hown
              generalize hx : args.getD k 0 = x at *
              have HX := Lib.hid hx
              clear hx
              have hpos : 0 < (encArg (kindL n k) x).length := by rw [heq]; unfold sizeN; split <;> omega
              clear heq
              have hmax : (encTo n args k).length + (encArg (kindL n k) x).length ≤ maxLen := by unfold maxLen; omega
              have hbytes : ((encTo n args k).length + (encArg (kindL n k) x).length) * 1 ≤ 140737488355328 := by omega
              have Q3 := Lib.hid q3w
              clear q3w
              go_upto_region 18 with (fail)
              go_cut [8] (fun v wx => RefInv w n (some ⟨b1, o1, none⟩) args cap wx ∧ wx.ownsRow (w.heap.size + 1) 5 1 v ((encTo n args k).length + (encArg (kindL n k) x).length) ((byteVals (encTo n args k)).toList ++ (byteVals (encArg (kindL n k) x)).toList))
              case first =>
                have HI2 := Lib.hid (HI.out.later (drew_below wr))
                have HO2 := Lib.hid (own_later HO.out (drew_below wr))
                go_region_held3 (fun w' => w'.cell? ⟨w.heap.size, 0, none⟩ = some (.int .u8 n) ∧ w'.cell? ⟨w.heap.size, 1, none⟩ = some (.slice (some ⟨b1, o1, none⟩) args.length cap) ∧ w'.cell? ⟨b1, o1 + k, none⟩ = some (.int .i64 x)) (go_keep) (first
                  | (go_at_call 30
                     refine (refKind n hn k (by omega) _).mono ?_
                     rintro e w6 ⟨rfl, rfl⟩)
                  | (go_at_call 31
                     refine (refNumber (kindL n k) HC.out x HIN.out _).mono ?_
                     rintro e w7 ⟨rfl, rfl⟩)
                  | (refine step_app etBytes (by rfl) _ _ (by rfl) (w.heap.size + 1) _ (encTo n args k).length (byteVals (encTo n args k)).toList (by rfl) (HO2.out.alloc _) _ (encArg (kindL n k) x).length (byteVals (encArg (kindL n k) x)).toList (by rfl) (src_new etBytes wr.drew (byteVals (encArg (kindL n k) x)) 5 _ _ (byteVals_size _) (byteVals_one _)) hbytes hmax (by simp; omega) ?_
                     intro v8 w8 hA8
                     have A8 := Lib.hid (RefInv.grown (HI2.out.later ((Below.refl _ _).alloc (Nat.le_refl _) _)) (HO2.out.alloc _) hA8.grown)
                     have O8 := Lib.hid hA8.own
                     have s0 := A8.out.op
                     have s1 := A8.out.row
                     have s2 := (A8.out.old.cell (p := ⟨b1, o1 + k, none⟩) l1).trans Q3.out
                     clear hA8))
                all_goals (go_wp2_with fail; go_meet; exact ⟨A8.out, O8.out⟩)
              case rest =>
                obtain ⟨hI, hown⟩ := hcut
                have HI := Lib.hid hI
                have HO := Lib.hid hown
                have q0 := hI.op
                have q2 := hI.size
                clear hI hown q1
                by_cases h60 : n = 60 ∧ k = 0
                · have b1' : ((n : Int) == 60) = true := by simp; omega
                  have b2' : ((k : Int) == 0) = true := by simp; omega
                  have HE := Lib.hid (HE1.out h60)
                  clear h60 HE1 HE2
                  have hrw : rowsOf n args.length < 256 := by omega
                  have HBV := Lib.hid (show (byteVals [UInt8.ofNat (rowsOf n args.length)]) = #[.int .u8 (rowsOf n args.length : Int)] by
                    simp only [byteVals, List.map_cons, List.map_nil]; rw [show (UInt8.ofNat (rowsOf n args.length)).toNat = rowsOf n args.length % 256 from UInt8.toNat_ofNat, Nat.mod_eq_of_lt hrw])
                  go_wp2_with (at_builtin; refine wpList_app etBytes rfl _ _ rfl (w.heap.size + 1) u8 _ _ rfl (HO.out.alloc _) _ 1 [.int .u8 (rowsOf n args.length : Int)] rfl (src_new etBytes wc #[.int .u8 (rowsOf n args.length : Int)] 5 1 1 rfl (by simp [Value.oneCell'])) (by omega) (by unfold maxLen; omega) (by simp; omega) ?_; intro v9 w9 hA9)
                  have A9 := Lib.hid (RefInv.grown (HI.out.later ((Below.refl _ _).alloc (Nat.le_refl _) _)) (HO.out.alloc _) hA9.grown)
                  have O9 := Lib.hid hA9.own
                  clear hA9
                  go_wp2_with fail
                  go_roundg (gk - 1)
                  case measure => omega
                  case rel =>
                    refine ⟨k + 1, by omega, by go_num, A9.out, ?_⟩
                    have := O9.out
                    rw [HE.out, byteVals_append, byteVals_append, HBV.out]
                    simpa [Nat.add_assoc] using this
                · have b2' : (((n : Int) == 60) = true ∧ ((k : Int) == 0) = false) ∨ ((n : Int) == 60) = false := by
                    by_cases h : n = 60
                    · left; refine ⟨by simp [h], ?_⟩; have : k ≠ 0 := fun h0 => h60 ⟨h, h0⟩; simp; omega
                    · right; simp; omega
                  have HE := Lib.hid (HE2.out h60)
                  clear h60 HE1 HE2
                  rcases b2' with ⟨b1', b2'⟩ | b1'
                  all_goals
                    go_wp2_with fail
                    go_roundg (gk - 1)
                    case measure => omega
                    case rel =>
                      refine ⟨k + 1, by omega, by go_num, HI.out, ?_⟩
                      have := HO.out
                      rw [HE.out, byteVals_append]
                      simpa using this
            · obtain rfl : k = args.length := by omega
              go_wp2_with fail
              go_ret2
              rw [HG.out]
              exact ⟨_, rfl, own_lower HO.out (by omega), HI.out.old⟩

theorem refOne_any (n : Nat) (hn : n < 256) (A : Option Addr) (args : List Int) (cap : Nat) (hl : args.length ≤ 17592186044416) (w : World) (hA : Ints w A args) :
    Calls Tryd.prog 37 #[.agg #[.int .u8 n, .slice A args.length cap]] w (RefEnd w (oneL n args)) := by
  by_cases hT : thereB n = true
  · by_cases hR : rowsOk n args.length = true
    · exact refOne_main n hn hT A args cap hl hR w hA
    · exact refOne_few n hn hT A args cap hl (by simpa using hR) w
  · exact refOne_none n hn (by simpa using hT) A args cap w
end Go.Proofs.YtgcmenjpcgdikaaDoor
