/- The document's Encode (layer 24). Condition: what lies in memory can lie there. -/
import Derived.Test.YtckbfocbainlpaaEa
namespace Go.Proofs.Ytckbfocbainlpaa
open Go.RowKit
set_option maxRecDepth 100000

theorem quiet_same {P : Program} {f : FuncId} {args : Array Value} {w : World} {x : Gr} {v : Value}
    (h : Calls P f args (growN w x) fun e w' => e = .returned v ∧ growN w x = w') : Calls P f args (growN w x) fun e w'' => e = .returned v ∧ ∃ y, w'' = growN w y :=
  h.mono fun _ _ ⟨he, hw⟩ => ⟨he, x, hw.symm⟩
/-- What stays while an image's bytes are gathered. -/
structure FInv (w : World) (s : IS) (i : ImgL) (v : Value) (l : List UInt8) (W : World) : Prop where
  box : Box w.heap.size (imgCells s i) 28 W
  old : Below w.heap.size w W
  own : W.ownsRow (w.heap.size + 1) 5 1 v l.length (byteVals l).toList
theorem FInv.grow {w : World} {s : IS} {i : ImgL} {v : Value} {l : List UInt8} {W W' : World} (h : FInv w s i v l W) (hb : Below W.heap.size W W') : FInv w s i v l W' :=
  ⟨h.box.grow hb, h.old.trans (hb.mono (Nat.le_of_lt h.box.lt)), own_later h.own hb⟩
theorem FInv.app {w : World} {s : IS} {i : ImgL} {v v' : Value} {l t : List UInt8} {W W' : World} {n : Nat} (h : FInv w s i v l W) (hA : App W W' (w.heap.size + 1) 5 1 v v' n ((byteVals l).toList ++ (byteVals t).toList)) (hn : n = l.length + t.length) : FInv w s i v' (l ++ t) W' := by
  refine ⟨h.box.app h.own hA.grown, hA.below h.old (Nat.le_of_lt h.box.lt) h.own (by omega), ?_⟩
  have := hA.own
  rw [hn] at this
  rw [List.length_append, byteVals_append]
  exact this
theorem FInv.size {w : World} {s : IS} {i : ImgL} {v : Value} {l : List UInt8} {W : World} (h : FInv w s i v l W) : w.heap.size + 1 ≤ W.heap.size := h.box.lt
theorem FInv.c0 {w : World} {s : IS} {i : ImgL} {v : Value} {l : List UInt8} {W : World} (h : FInv w s i v l W) : W.cell? ⟨w.heap.size, 0, none⟩ = some (.slice s.A1 i.names.length s.c1) := (h.box.cell 0).trans rfl
theorem FInv.c1 {w : World} {s : IS} {i : ImgL} {v : Value} {l : List UInt8} {W : World} (h : FInv w s i v l W) : W.cell? ⟨w.heap.size, 1, none⟩ = some (.slice s.A2 i.mods.length s.c2) := (h.box.cell 1).trans rfl
theorem byte1 (n : Nat) (hn : n < 256) : byteVals [UInt8.ofNat n] = #[.int .u8 ((n : Int) % 256)] := by rw [byteVals_ofNat n hn, show (n : Int) % 256 = (n : Int) by omega]
theorem FInv.start {w w1 : World} {s : IS} {i : ImgL} {x : Int} (hX : Box w.heap.size (imgCells s i) 28 w1) (hb : Below w.heap.size w w1) (n : Nat) (hx : #[Value.int .u8 x] = byteVals [UInt8.ofNat n]) :
    FInv w s i (.slice (some ⟨w1.heap.size, 0, none⟩) 1 1) [UInt8.ofNat n] (w1.alloc (.cells #[.int .u8 x] 5)) := by
  refine ⟨hX.grow (alloc_below _ _), hb.trans ((alloc_below _ _).mono (Nat.le_of_lt hX.lt)), ?_⟩
  rw [hx]
  exact own_block (l := [UInt8.ofNat n]) (heap_alloc_new w1 _) _ 1 hX.lt rfl (by omega)

set_option maxHeartbeats 4000000 in
theorem refEncode_any (s : IS) (i : ImgL) (w : World) (hI : ImgIn w s i) : Calls Try.prog 9 #[imgV s i] w (PackEnd w (imgB i) (encodeL i)) := by
  have hn := hI.names_le
  have hm := hI.mods_le
  have ho := hI.order_le
  have HI := Lib.hid hI
  have HW := Lib.hid (alloc_below w (.cells #[.slice s.A1 i.names.length s.c1, .slice s.A2 i.mods.length s.c2, .slice s.A3 i.order.length s.c3] 28))
  clear hI
  unfold imgV
  go_enter Try.func9, Try.ntmps9
  go_wp2_with fail
  refine (refMay_any s i _ (HI.out.later HW.out (Nat.le_refl _))).mono ?_
  rintro e w1 ⟨rfl, hb1⟩
  have HB1 := Lib.hid (box_below hb1).1
  cases hq : imgB i
  · have HQ := Lib.hid hq
    clear hq hb1
    go_wp2_with fail
    go_ret2
    exact packEnd_of (ok' := false) (l' := []) (by unfold encodeL; rw [HQ.out]; rfl) HQ.out.symm rfl HB1.out
  have HQ := Lib.hid hq
  have HOk := Lib.hid (okI_of hq)
  have HE := Lib.hid (show encodeL i = wrapL (imgBody i) by unfold encodeL; rw [hq]; rfl)
  have hn64 := HOk.out.few
  have hsm := HOk.out.same
  have HX := Lib.hid ((Box.new w (imgCells s i) 28 (by decide)).grow hb1)
  clear hq hb1
  have b0 : w1.cell? ⟨w.heap.size, 0, none⟩ = some (.slice s.A1 i.names.length s.c1) := (HX.out.cell 0).trans rfl
  go_wp2_with fail
  clear b0
  go_loopg [4, 5] (i.names.length) (fun g v x wr => ∃ k : Nat, k + g = i.names.length ∧ x = .int .i64 k ∧ FInv w s i v (bodyTo i k) wr)
  case atStart =>
    refine ⟨0, by omega, rfl, ?_⟩
    rw [show bodyTo i 0 = [UInt8.ofNat i.names.length] by simp [bodyTo]]
    first
      | exact FInv.start HX.out HB1.out _ (byteVals_ofNat i.names.length (by omega)).symm
      | exact FInv.start HX.out HB1.out _ (byte1 i.names.length (by omega)).symm
  case round =>
    clear HX HB1
    obtain ⟨k, hk, rfl, hP⟩ := hrel
    have HP := Lib.hid hP
    have hbl := bodyTo_len HOk.out k (by omega)
    by_cases hlt : k < i.names.length
    · obtain ⟨bb, off, hA1, hb1, c0w, hs0⟩ := Each.at_ HI.out.names hlt
      obtain ⟨bm, om, hA2, hb2, s2, hM, d0, d1, d2, d3, d4⟩ := Each.at_ (HI.out.mods.later hP.old (Nat.le_refl _)) (j := k) (by omega)
      have HF := Lib.hid (bodyTo_succ i k)
      obtain ⟨r0, r1⟩ := HOk.out.name k hlt
      have HMo := Lib.hid (HOk.out.mod k hlt)
      have hpk := packL_len (okM_of HMo.out)
      have HM := Lib.hid hM
      have b0 := hP.c0
      have b1 := hP.c1
      have hcl := hM.code_le
      clear hP hM
      generalize i.names.getD k [] = x at *
      generalize i.mods.getD k default = m at *
      obtain ⟨A1, cc1, A2, cc2, A3, cc3⟩ := s
      simp only at hA1 hA2 b0 b1 ⊢
      subst hA1 hA2
      have hkI : (k : Int) < (i.names.length : Int) := by omega
      have hkI2 : (k : Int) < (i.mods.length : Int) := by omega
      rw [Nat.mul_one] at c0w
      have C0 := Lib.hid (show ∀ W, Below w.heap.size w W → W.cell? ⟨bb, off + k, none⟩ = some (.string ⟨x.toArray⟩) from fun W hW => (hW.cell (p := ⟨bb, off + k, none⟩) hb1).trans c0w)
      clear c0w
      go_wp2_with fail
      refine (refPack_any s2 m _ HM.out).mono ?_
      rintro e w4 ⟨rfl, hb4⟩
      have HR := Lib.hid (HP.out.grow hb4)
      have HPR := Lib.hid (show packR m = packL m by unfold packR; rw [HMo.out]; rfl)
      clear hb4 HP HM d0 d1 d2 d3 d4 b0 b1
      rw [HMo.out, HPR.out, show errArg true = 0 from rfl]
      have b0 := HR.out.c0
      have c0 := C0.out _ HR.out.old
      have HB1 := Lib.hid (byteVals_ofNat x.length (by omega))
      have HB2 := Lib.hid (byte1 x.length (by omega))
      simp only at b0
      go_wp2_with (first
        | (at_builtin; refine wpList_app etBytes rfl _ _ rfl (w.heap.size + 1) _ _ _ rfl (FInv.own (HR.out.grow (alloc_below _ _))) _ 1 (byteVals [UInt8.ofNat x.length]).toList rfl (by first | (rw [HB1.out]; exact src_new etBytes _ _ _ 1 1 rfl (by simp [Value.oneCell'])) | (rw [HB2.out]; exact src_new etBytes _ _ _ 1 1 rfl (by simp [Value.oneCell']))) (by omega) (by unfold maxLen; omega) (FInv.size (HR.out.grow (alloc_below _ _))) ?_; intro u5 x5 hA5; have HR5 := Lib.hid ((HR.out.grow (alloc_below _ _)).app hA5 rfl); clear hA5; have b5 := HR5.out.c0; have c5 := C0.out _ HR5.out.old; simp only at b5)
        | (at_builtin; refine wpList_app etBytes rfl _ _ rfl (w.heap.size + 1) _ _ _ rfl HR5.out.own _ _ _ rfl (src_str _ x) (by simp only [List.length_append, List.length_cons, List.length_nil]; omega) (by simp only [List.length_append, List.length_cons, List.length_nil]; unfold maxLen; omega) HR5.out.size ?_; intro u6 x6 hA6; have HR6 := Lib.hid (HR5.out.app hA6 rfl); clear hA6)
        | (at_builtin; refine wpList_app etBytes rfl _ _ rfl (w.heap.size + 1) _ _ _ rfl HR6.out.own _ _ _ rfl (src_str _ (packL m)) (by simp only [List.length_append, List.length_cons, List.length_nil]; omega) (by simp only [List.length_append, List.length_cons, List.length_nil]; unfold maxLen; omega) HR6.out.size ?_; intro u7 x7 hA7; have HR7 := Lib.hid (HR6.out.app hA7 rfl); clear hA7))
      go_roundg (gk - 1)
      case measure => omega
      case rel => exact ⟨k + 1, by omega, by go_num, by rw [HF.out]; have := HR7.out; simp only [List.append_assoc] at this; exact this⟩
    · obtain rfl : k = i.names.length := by omega
      have b0 := hP.c0
      have HBo := Lib.hid (show bodyTo i i.names.length = imgBody i from rfl)
      rw [HBo.out] at hbl HP
      clear hP
      rename World => w2
      have hcv : ∀ x v, v = u4 → (convert 51 9 v).run Try.prog (growN w2 x) = .ok (.string ⟨(imgBody i).toArray⟩) (growN w2 x) := fun x v hv => by subst hv; exact conv_own (own_later HP.out.own (growN_below w2 x))
      obtain ⟨A9, c9, hv9⟩ := own_slice' HP.out.own
      have hconv := fun x => hcv x _ hv9.symm
      subst hv9
      clear hcv
      have h8 : (eightL (keyN (imgBody i))).length = 8 := beN_length _ _
      have HK := Lib.hid (keyN_lt (imgBody i))
      have HE2 := Lib.hid (show wrapL (imgBody i) = kindL ++ (eightL (keyN (imgBody i)) ++ imgBody i) from rfl)
      have a1 := addS [83, 69, 80, 73] (eightL (keyN (imgBody i))) (by simp; omega)
      have a2 := addS ([83, 69, 80, 73] ++ eightL (keyN (imgBody i))) (imgBody i) (by simp; omega)
      have a3 := addS (83 :: 69 :: 80 :: 73 :: eightL (keyN (imgBody i))) (imgBody i) (by simp; omega)
      go_wp2_with fail
      refine wp_region_grow (by kernel_rfl) (by kernel_rfl) ?_
      repeat (first | go_big_quiet_step (first | (refine quiet_same (refOf_any (imgBody i) (by omega) _)) | (refine quiet_grow (refEight_any (keyN (imgBody i)) HK.out _))))
      refine wpQuiet_nil ?_
      rintro _ ⟨gx, rfl⟩
      have HQd := Lib.hid (HP.out.old.trans ((growN_below w2 gx).mono (Nat.le_of_lt HP.out.box.lt)))
      go_wp2_with fail
      go_ret2
      exact packEnd_of (ok' := true) (l' := kindL ++ (eightL (keyN (imgBody i)) ++ imgBody i)) (by rw [HE.out, HE2.out]) HQ.out.symm rfl HQd.out
end Go.Proofs.Ytckbfocbainlpaa
