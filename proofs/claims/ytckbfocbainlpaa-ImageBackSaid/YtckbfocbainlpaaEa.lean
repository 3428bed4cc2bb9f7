/- image.Encode. Condition: what lies in memory can lie there. -/
import Derived.Test.YtckbfocbainlpaaOe
import Derived.Test.YtckbfocbainlpaaIh
namespace Go.Proofs.Ytckbfocbainlpaa
open Go.RowKit
set_option maxRecDepth 100000

/-- What an image has that may be. -/
structure OkI (i : ImgL) : Prop where
  few : i.names.length ≤ 64
  same : i.mods.length = i.names.length
  name : ∀ k, k < i.names.length → 1 ≤ (i.names.getD k []).length ∧ (i.names.getD k []).length ≤ 255
  mod : ∀ k, k < i.names.length → modOkB (i.mods.getD k default) = true
theorem getD_mem {α : Type} (l : List α) (k : Nat) (d : α) (hk : k < l.length) : l.getD k d ∈ l := by
  rw [List.getD_eq_getElem?_getD, List.getElem?_eq_getElem hk]; exact List.getElem_mem hk
theorem okI_of {i : ImgL} (h : imgB i = true) : OkI i := by
  unfold imgB at h
  simp only [Bool.and_eq_true, beq_iff_eq] at h
  obtain ⟨⟨⟨⟨⟨h1, h2⟩, h3⟩, h4⟩, h5⟩, h6⟩ := h
  have h0 := h1
  unfold checkB at h0
  simp only [Bool.and_eq_true, withinB_iff] at h0
  refine ⟨by omega, by omega, fun k hk => ?_, fun k hk => modOk_of_check h1 _ (getD_mem _ _ _ (by omega))⟩
  have := List.all_eq_true.1 h4 _ (getD_mem i.names k [] hk)
  unfold nameB at this
  simpa using this
theorem bodyTo_len {i : ImgL} (h : OkI i) (k : Nat) (hk : k ≤ i.names.length) : (bodyTo i k).length ≤ 1 + k * 207365 := by
  induction k with
  | zero => simp [bodyTo]
  | succ k ih =>
    have := ih (by omega)
    have h1 := h.name k (by omega)
    have h2 := packL_len (okM_of (h.mod k (by omega)))
    rw [bodyTo_succ]
    simp only [List.length_append, List.length_cons, List.length_nil]
    omega
theorem Bld.byteN {b : Nat} {l : List UInt8} (n : Nat) (hn : n < 256) {w : World} (h : Bld b l w) (hlen : l.length + 1 ≤ 140737488355328) :
    Calls Try.prog 20 #[.pointer (some ⟨b, 0, none⟩), .int .u8 (n : Int)] w fun e w' => e = .returned .nilIface ∧ Bld b (l ++ [UInt8.ofNat n]) w' ∧ Wrote b w w' := by
  have := Bld.byte (UInt8.ofNat n) h hlen
  rwa [show (UInt8.ofNat n).toNat = n % 256 from UInt8.toNat_ofNat, Nat.mod_eq_of_lt hn] at this
theorem Bld.byteM {b : Nat} {l : List UInt8} (n : Nat) (hn : n < 256) {w : World} (h : Bld b l w) (hlen : l.length + 1 ≤ 140737488355328) :
    Calls Try.prog 20 #[.pointer (some ⟨b, 0, none⟩), .int .u8 ((n : Int) % 256)] w fun e w' => e = .returned .nilIface ∧ Bld b (l ++ [UInt8.ofNat n]) w' ∧ Wrote b w w' := by
  have := Bld.byteN n hn h hlen
  rwa [show (n : Int) % 256 = (n : Int) by omega]
def imgCells (s : IS) (i : ImgL) : Array Value := #[.slice s.A1 i.names.length s.c1, .slice s.A2 i.mods.length s.c2, .slice s.A3 i.order.length s.c3]
/-- What stays while an image is written. -/
structure EInv (w : World) (s : IS) (i : ImgL) (b : Nat) (W : World) : Prop where
  box : Box w.heap.size (imgCells s i) 28 W
  old : Below w.heap.size w W
  lt : w.heap.size < b
theorem EInv.grow {w : World} {s : IS} {i : ImgL} {b : Nat} {W W' : World} (h : EInv w s i b W) (hb : Below W.heap.size W W') : EInv w s i b W' :=
  ⟨h.box.grow hb, h.old.trans (hb.mono (Nat.le_of_lt h.box.lt)), h.lt⟩
theorem EInv.wrote {w : World} {s : IS} {i : ImgL} {b : Nat} {W W' : World} (h : EInv w s i b W) (hb : Wrote b W W') : EInv w s i b W' :=
  ⟨h.box.later hb.below h.lt, h.old.trans (hb.below.mono (Nat.le_of_lt h.lt)), h.lt⟩
theorem EInv.c0 {w : World} {s : IS} {i : ImgL} {b : Nat} {W : World} (h : EInv w s i b W) : W.cell? ⟨w.heap.size, 0, none⟩ = some (.slice s.A1 i.names.length s.c1) := (h.box.cell 0).trans rfl
theorem EInv.c1 {w : World} {s : IS} {i : ImgL} {b : Nat} {W : World} (h : EInv w s i b W) : W.cell? ⟨w.heap.size, 1, none⟩ = some (.slice s.A2 i.mods.length s.c2) := (h.box.cell 1).trans rfl
theorem EInv.c2 {w : World} {s : IS} {i : ImgL} {b : Nat} {W : World} (h : EInv w s i b W) : W.cell? ⟨w.heap.size, 2, none⟩ = some (.slice s.A3 i.order.length s.c3) := (h.box.cell 2).trans rfl

set_option maxHeartbeats 4000000 in
theorem encode_any (s : IS) (i : ImgL) (w : World) (hI : ImgIn w s i) : Calls Try.prog 8 #[imgV s i] w (PackEnd w (imgB i) (encodeL i)) := by
  have hn := hI.names_le
  have hm := hI.mods_le
  have ho := hI.order_le
  have HI := Lib.hid hI
  have HW := Lib.hid (alloc_below w (.cells #[.slice s.A1 i.names.length s.c1, .slice s.A2 i.mods.length s.c2, .slice s.A3 i.order.length s.c3] 28))
  clear hI
  unfold imgV
  go_enter Try.func8, Try.ntmps8
  go_wp2_with fail
  refine (imgCheck_any s i _ (HI.out.later HW.out (Nat.le_refl _))).mono ?_
  rintro e w1 ⟨rfl, hb1⟩
  have HB1 := Lib.hid (box_below hb1).1
  cases hq : imgB i
  · have HQ := Lib.hid hq
    clear hq hb1
    rw [show errArg false = 2 from rfl]
    go_wp2_with fail
    go_ret2
    exact packEnd_of (ok' := false) (l' := []) (by unfold encodeL; rw [HQ.out]; rfl) HQ.out.symm rfl HB1.out
  have HQ := Lib.hid hq
  have HOk := Lib.hid (okI_of hq)
  have HE := Lib.hid (show encodeL i = wrapL (imgBody i) by unfold encodeL; rw [hq]; rfl)
  have hn64 := HOk.out.few
  have hsm := HOk.out.same
  have HX := Lib.hid ((Box.new w (imgCells s i) 28 (by decide)).grow hb1)
  have HLT := Lib.hid (box_below hb1).2
  clear hq hb1
  rw [show errArg true = 0 from rfl]
  have b0 : w1.cell? ⟨w.heap.size, 0, none⟩ = some (.slice s.A1 i.names.length s.c1) := (HX.out.cell 0).trans rfl
  have hlt1 : w.heap.size < w1.heap.size := HLT.out
  go_wp2_with fail
  have HP := Lib.hid (show EInv w s i w1.heap.size (w1.alloc (.cells #[.pointer none, .slice none 0 0] 59)) from ⟨HX.out.grow (alloc_below _ _), HB1.out.trans ((alloc_below _ _).mono (Nat.le_of_lt HLT.out)), HLT.out⟩)
  have HD := Lib.hid (Bld.new w1)
  clear b0 hlt1 HX HLT HB1
  generalize w1.alloc (.cells #[.pointer none, .slice none 0 0] 59) = w2 at *
  generalize w1.heap.size = b at *
  first | refine (Bld.byteN i.names.length (by omega) HD.out (by simp)).mono ?_ | refine (Bld.byteM i.names.length (by omega) HD.out (by simp)).mono ?_
  rintro e w3 ⟨rfl, hd3, hw3⟩
  have HP3 := Lib.hid (HP.out.wrote hw3)
  have HD3 := Lib.hid hd3
  have b0 := HP3.out.c0
  clear hd3 hw3 HP HD
  go_wp2_with fail
  clear b0
  go_loopg [24] (i.names.length) (fun g v wr => ∃ k : Nat, k + g = i.names.length ∧ v = .int .i64 k ∧ EInv w s i b wr ∧ Bld b (bodyTo i k) wr)
  case atStart => exact ⟨0, by omega, rfl, HP3.out, by have := HD3.out; simpa [bodyTo] using this⟩
  case round =>
    clear HP3 HD3
    obtain ⟨k, hk, rfl, hP, hD⟩ := hrel
    have HP := Lib.hid hP
    have HD := Lib.hid hD
    have hbl := bodyTo_len HOk.out k (by omega)
    by_cases hlt : k < i.names.length
    · obtain ⟨bb, off, hA1, hb1, c0, hs0⟩ := Each.at_ (HI.out.names.later hP.old (Nat.le_refl _)) hlt
      obtain ⟨bm, om, hA2, hb2, s2, hM, d0, d1, d2, d3, d4⟩ := Each.at_ (HI.out.mods.later hP.old (Nat.le_refl _)) (j := k) (by omega)
      have HF := Lib.hid (bodyTo_succ i k)
      obtain ⟨r0, r1⟩ := HOk.out.name k hlt
      have HMo := Lib.hid (HOk.out.mod k hlt)
      have hpk := packL_len (okM_of HMo.out)
      have HM := Lib.hid hM
      have b1 := hP.c1
      have hcl := hM.code_le
      clear hP hD hM
      generalize i.names.getD k [] = x at *
      generalize i.mods.getD k default = m at *
      obtain ⟨A1, cc1, A2, cc2, A3, cc3⟩ := s
      simp only at hA1 hA2 b1 ⊢
      subst hA1 hA2
      have hkI : (k : Int) < (i.names.length : Int) := by omega
      have hkI2 : (k : Int) < (i.mods.length : Int) := by omega
      rw [Nat.mul_one] at c0
      go_wp2_with fail
      refine (pack_any s2 m _ HM.out).mono ?_
      rintro e w4 ⟨rfl, hb4⟩
      have HP4 := Lib.hid (HP.out.grow hb4)
      have HD4 := Lib.hid (HD.out.later hb4)
      have HPR := Lib.hid (show packR m = packL m by unfold packR; rw [HMo.out]; rfl)
      clear hb4 HP HD HM c0 d0 d1 d2 d3 d4 b1
      rw [HMo.out, HPR.out, show errArg true = 0 from rfl]
      go_wp2_with fail
      first | refine (Bld.byteN x.length (by omega) HD4.out (by omega)).mono ?_ | refine (Bld.byteM x.length (by omega) HD4.out (by omega)).mono ?_
      rintro e w5 ⟨rfl, hd5, hw5⟩
      have HP5 := Lib.hid (HP4.out.wrote hw5)
      have HD5 := Lib.hid hd5
      clear hd5 hw5 HP4 HD4
      have a1 := addS x (packL m) (by omega)
      go_wp2_with fail
      refine (Bld.writes (x ++ packL m) HD5.out (by simp only [List.length_append, List.length_cons, List.length_nil]; omega)).mono ?_
      rintro e w6 ⟨rfl, hd6, hw6⟩
      have HP6 := Lib.hid (HP5.out.wrote hw6)
      have HD6 := Lib.hid hd6
      clear hd6 hw6 HP5 HD5 a1
      go_wp2_with fail
      go_roundg (gk - 1)
      case measure => omega
      case rel => exact ⟨k + 1, by omega, by go_num, HP6.out, by rw [HF.out]; have := HD6.out; rw [List.append_assoc] at this; exact this⟩
    · obtain rfl : k = i.names.length := by omega
      clear hP hD
      go_wp2_with fail
      refine HD.out.string.mono ?_
      rintro e w5 ⟨rfl, hb5⟩
      have HB5 := Lib.hid (HP.out.old.trans (hb5.mono (Nat.le_of_lt HP.out.lt)))
      have HZ := Lib.hid (Nat.le_trans HP.out.old.size hb5.size)
      have HBo := Lib.hid (show bodyTo i i.names.length = imgBody i from rfl)
      rw [HBo.out] at hbl ⊢
      clear hb5 HP HD
      go_wp2_with fail
      refine (keyOf_any (imgBody i) (by omega) _).mono ?_
      rintro e w6 ⟨rfl, rfl⟩
      go_wp2_with fail
      refine (eight_any (keyN (imgBody i)) _).mono ?_
      rintro e w7 ⟨rfl, hb7⟩
      have HB7 := Lib.hid (HB5.out.trans (hb7.mono HZ.out))
      clear hb7 HB5
      have h8 : (eightL (keyN (imgBody i))).length = 8 := beN_length _ _
      have HE2 := Lib.hid (show wrapL (imgBody i) = kindL ++ (eightL (keyN (imgBody i)) ++ imgBody i) from rfl)
      generalize eightL (keyN (imgBody i)) = e8 at *
      generalize imgBody i = body at *
      have a1 := addS [83, 69, 80, 73] e8 (by simp; omega)
      have a2 := addS ([83, 69, 80, 73] ++ e8) body (by simp; omega)
      have a3 := addS (83 :: 69 :: 80 :: 73 :: e8) body (by simp; omega)
      go_wp2_with fail
      go_ret2
      exact packEnd_of (ok' := true) (l' := kindL ++ (e8 ++ body)) (by rw [HE.out, HE2.out]) HQ.out.symm rfl HB7.out
end Go.Proofs.Ytckbfocbainlpaa
