/- The document's packed, Pack. Condition: what lies in memory can lie there. (Printed by gen_oe.py.) -/
import Derived.Test.YtckbfocbainlpaaOd
namespace Go.Proofs.Ytckbfocbainlpaa
open Go.RowKit
set_option maxRecDepth 100000

theorem src_str (W : World) (l : List UInt8) : Src Try.prog 1 9 (.string ⟨l.toArray⟩) l.length (byteVals l).toList W := by
  have := Src.ofString (P := Try.prog) W Try.underlying9 ⟨l.toArray⟩
  have e1 : byteCells ⟨l.toArray⟩ = (byteVals l).toList := by simp [byteCells, byteVals]
  rw [e1] at this
  exact this
theorem beN1 (x : Int) (h : 0 ≤ x) : byteVals (beN x.toNat 1) = #[.int .u8 (x % 256)] := by
  obtain ⟨n, rfl⟩ : ∃ n : Nat, x = n := ⟨x.toNat, by omega⟩
  exact byteVals_mod n
theorem beN1' (x : Int) (h : 0 ≤ x) (h2 : x ≤ 255) : byteVals (beN x.toNat 1) = #[.int .u8 x] := by rw [beN1 x h, Int.emod_eq_of_lt h (by omega)]
theorem beN1t (x : Int) (h : 0 ≤ x) (f : Bool) : byteVals (beN x.toNat 1 ++ truthL f) = #[.int .u8 (x % 256), .int .u8 (if f then 1 else 0)] := by
  obtain ⟨n, rfl⟩ : ∃ n : Nat, x = n := ⟨x.toNat, by omega⟩
  have := byteVals_mod n
  cases f <;> simp [byteVals, beN, truthL] at this ⊢ <;> exact this

theorem refTruthAs (n : Int) (b : Bool) (hn : n = if b = true then 1 else 0) (w : World) : Calls Try.prog 60 #[.bool b] w fun e w' => e = .returned (.int .u8 n) ∧ w = w' := by subst hn; exact refTruth_any b w
theorem lvFn {q : Nat} {p : ProcL} {W : World} (h : Box q (procCells p) 90 W) : W.cell? ⟨q, 4, none⟩ = some (.int .i64 p.level) ∧ W.cell? ⟨q, 5, none⟩ = some (.bool p.fn) := ⟨(h.cell 4).trans rfl, (h.cell 5).trans rfl⟩
set_option maxHeartbeats 4000000 in
theorem packed_any (s : MS) (m : ModL) (w : World) (hI : ModIn w s m) (hOk : OkM m) : Calls Try.prog 48 #[modV s m] w (RowEnd w (packL m)) := by
  have hk1 := hOk.code
  have hk2 := hOk.procs
  have hk3 := hOk.imports
  have hk4 := hOk.data0
  have hk5 := hOk.data
  have hk6 := hOk.init
  have HOk := Lib.hid hOk
  have HI := Lib.hid hI
  have HX0 := Lib.hid (Box.new w (modCells s m) 41 (by decide))
  clear hI hOk
  unfold modV
  go_enter Try.func48, Try.ntmps48
  go_wp2_with fail
  refine (refNumber2 _ (by omega) (by omega) _).mono ?_
  rintro e w1 ⟨v1, rfl, hown1, hb1⟩
  have HR := Lib.hid (show RInv w s m v1 (beN m.code.length 2) w1 from ⟨HX0.out.grow hb1, (box_below hb1).1, by simpa using hown1⟩)
  have p0 := HR.out.c0
  clear hown1 hb1 HX0
  go_wp2_with (at_builtin; refine wpList_app etBytes rfl _ _ rfl (w.heap.size + 1) _ _ _ rfl HR.out.own _ _ _ rfl (src_str _ m.code) (by simp only [List.length_append, beN_length]; omega) (by simp only [List.length_append, beN_length]; unfold maxLen; omega) HR.out.size ?_; intro u2 x2 hA2; have HR' := Lib.hid (HR.out.app hA2 rfl); clear hA2; have p1 := HR'.out.c1)
  clear HR p0 
  have HR := HR'
  clear HR'
  refine (refNumber2 _ (by omega) (by omega) _).mono ?_
  rintro e w3 ⟨v3, rfl, hown3, hb3⟩
  have HR3 := Lib.hid (HR.out.grow hb3)
  have HO3 := Lib.hid hown3
  clear hown3 hb3 HR p1
  go_wp2_with (at_builtin; refine wpList_app etBytes rfl _ _ rfl (w.heap.size + 1) _ _ _ rfl HR3.out.own _ _ _ rfl (src_row HO3.out) (by simp only [List.length_append, beN_length]; omega) (by simp only [List.length_append, beN_length]; unfold maxLen; omega) HR3.out.size ?_; intro u3 x3 hA3; have HR' := Lib.hid (HR3.out.app hA3 rfl); clear hA3; have p1 := HR'.out.c1)
  clear HR3 HO3 
  have HR := HR'
  clear HR'
  clear p1
  go_loopg [3, 4] (m.procs.length) (fun g v i wr => ∃ k : Nat, k + g = m.procs.length ∧ i = .int .i64 k ∧ RInv w s m v (pk2 m k) wr)
  case atStart => exact ⟨0, by omega, rfl, by rw [show pk2 m 0 = pk1 m by simp [pk2]]; exact HR.out⟩
  case round =>
    clear HR
    obtain ⟨k, hk, rfl, hR⟩ := hrel
    have p1 := hR.c1
    by_cases hlt : k < m.procs.length
    · obtain ⟨bb, off, hA1, hbl, hC⟩ := Each.at_ (HI.out.procs.later hR.old (Nat.le_refl _)) hlt
      have HF := Lib.hid (show pk2 m (k + 1) = pk2 m k ++ procN (m.procs.getD k default) by unfold pk2; rw [flat_take procN m.procs k default hlt, List.append_assoc])
      have hlen := pk2_len HOk.out k
      obtain ⟨⟨r0, r1⟩, ⟨r2, r3⟩, ⟨r4, r5⟩, ⟨r6, r7⟩, ⟨r8, r9⟩⟩ := HOk.out.proc (m.procs.getD k default) (by rw [List.getD_eq_getElem?_getD, List.getElem?_eq_getElem hlt]; exact List.getElem_mem hlt)
      have HRw := Lib.hid hR
      clear hR
      generalize m.procs.getD k default = p at *
      obtain ⟨c0, c1, c2, c3, c4, c5⟩ := hC
      obtain ⟨A1, cc1, A2, cc2, A3, cc3⟩ := s
      simp only at hA1 ⊢
      subst hA1
      have hkI : (k : Int) < (m.procs.length : Int) := by omega
      simp only at p1
      go_wp2_with fail
      have HX := Lib.hid (Box.new wr (procCells p) 90 (by decide))
      have HR := Lib.hid (HRw.out.grow (alloc_below wr (.cells (procCells p) 90)))
      clear c0 c1 c2 c3 c4 c5 p1 HRw
      generalize wr.heap.size = q at *
      refine (refNumber2 _ (by omega) (by omega) _).mono ?_
      rintro e w4 ⟨v4, rfl, hown4, hb4⟩
      have HR4 := Lib.hid (HR.out.grow hb4)
      have HO4 := Lib.hid hown4
      have HX4 := Lib.hid (HX.out.grow hb4)
      clear hown4 hb4 HR HX 
      go_wp2_with (at_builtin; refine wpList_app etBytes rfl _ _ rfl (w.heap.size + 1) _ _ _ rfl HR4.out.own _ _ _ rfl (src_row HO4.out) (by simp only [List.length_append, beN_length]; omega) (by simp only [List.length_append, beN_length]; unfold maxLen; omega) HR4.out.size ?_; intro u4 x4 hA4; have HR' := Lib.hid (HR4.out.app hA4 rfl); have HX' := Lib.hid (HX4.out.app HR4.out.own hA4.grown); clear hA4; have e1 : _ = some (Value.int .i64 p.params) := (HX'.out.cell 1).trans rfl)
      clear HR4 HO4 HX4
      have HR := HR'
      have HX := HX'
      clear HR' HX'
      refine (refNumber2 _ (by omega) (by omega) _).mono ?_
      rintro e w5 ⟨v5, rfl, hown5, hb5⟩
      have HR5 := Lib.hid (HR.out.grow hb5)
      have HO5 := Lib.hid hown5
      have HX5 := Lib.hid (HX.out.grow hb5)
      clear hown5 hb5 HR HX e1
      go_wp2_with (at_builtin; refine wpList_app etBytes rfl _ _ rfl (w.heap.size + 1) _ _ _ rfl HR5.out.own _ _ _ rfl (src_row HO5.out) (by simp only [List.length_append, beN_length]; omega) (by simp only [List.length_append, beN_length]; unfold maxLen; omega) HR5.out.size ?_; intro u5 x5 hA5; have HR' := Lib.hid (HR5.out.app hA5 rfl); have HX' := Lib.hid (HX5.out.app HR5.out.own hA5.grown); clear hA5; have e2 : _ = some (Value.int .i64 p.locals) := (HX'.out.cell 2).trans rfl)
      clear HR5 HO5 HX5
      have HR := HR'
      have HX := HX'
      clear HR' HX'
      refine (refNumber2 _ (by omega) (by omega) _).mono ?_
      rintro e w6 ⟨v6, rfl, hown6, hb6⟩
      have HR6 := Lib.hid (HR.out.grow hb6)
      have HO6 := Lib.hid hown6
      have HX6 := Lib.hid (HX.out.grow hb6)
      clear hown6 hb6 HR HX e2
      go_wp2_with (at_builtin; refine wpList_app etBytes rfl _ _ rfl (w.heap.size + 1) _ _ _ rfl HR6.out.own _ _ _ rfl (src_row HO6.out) (by simp only [List.length_append, beN_length]; omega) (by simp only [List.length_append, beN_length]; unfold maxLen; omega) HR6.out.size ?_; intro u6 x6 hA6; have HR' := Lib.hid (HR6.out.app hA6 rfl); have HX' := Lib.hid (HX6.out.app HR6.out.own hA6.grown); clear hA6; have e3 : _ = some (Value.int .i64 p.depth) := (HX'.out.cell 3).trans rfl)
      clear HR6 HO6 HX6
      have HR := HR'
      have HX := HX'
      clear HR' HX'
      refine (refNumber2 _ (by omega) (by omega) _).mono ?_
      rintro e w7 ⟨v7, rfl, hown7, hb7⟩
      have HR7 := Lib.hid (HR.out.grow hb7)
      have HO7 := Lib.hid hown7
      have HX7 := Lib.hid (HX.out.grow hb7)
      clear hown7 hb7 HR HX e3
      go_wp2_with (at_builtin; refine wpList_app etBytes rfl _ _ rfl (w.heap.size + 1) _ _ _ rfl HR7.out.own _ _ _ rfl (src_row HO7.out) (by simp only [List.length_append, beN_length]; omega) (by simp only [List.length_append, beN_length]; unfold maxLen; omega) HR7.out.size ?_; intro u7 x7 hA7; have HR' := Lib.hid (HR7.out.app hA7 rfl); have HX' := Lib.hid (HX7.out.app HR7.out.own hA7.grown); clear hA7; have e4 : _ = some (Value.int .i64 p.level) := (HX'.out.cell 4).trans rfl; have e5 : _ = some (Value.bool p.fn) := (HX'.out.cell 5).trans rfl)
      clear HR7 HO7 HX7
      have HR := HR'
      have HX := HX'
      clear HR' HX'
      obtain ⟨tf, htf⟩ : ∃ tf : Int, tf = (if p.fn = true then 1 else 0) := ⟨_, rfl⟩
      have HT := Lib.hid htf
      have HB := Lib.hid (beN1t p.level (by omega) p.fn)
      rw [← htf] at HB
      clear htf
      rename World => w2
      have HRd := Lib.hid (HR.out.grow (drew_below w2))
      have HXd := Lib.hid (HX.out.grow (drew_below w2))
      have ht2 : (beN p.level.toNat 1 ++ truthL p.fn).length = 2 := by rw [List.length_append, beN_length, truthL_length]
      go_region_held3 (fun W => W.cell? ⟨q, 4, none⟩ = some (.int .i64 p.level) ∧ W.cell? ⟨q, 5, none⟩ = some (.bool p.fn)) (first | exact lvFn HXd.out | exact lvFn (HXd.out.grow (alloc_below _ _)) | exact lvFn (by assumption)) (first
        | (go_at_call 60
           refine (refTruthAs tf _ HT.out _).mono ?_
           rintro e w6 ⟨rfl, rfl⟩)
        | (refine step_app etBytes (by rfl) _ _ (by rfl) (w.heap.size + 1) _ _ _ (by rfl) (RInv.own (HRd.out.grow (alloc_below _ _))) _ 2 (byteVals (beN p.level.toNat 1 ++ truthL p.fn)).toList (by rfl) (by rw [HB.out]; exact src_new etBytes w2.drew _ _ 2 2 rfl (by simp [Value.oneCell'])) (by simp only [List.length_append, beN_length]; omega) (by simp only [List.length_append, beN_length]; unfold maxLen; omega) (RInv.size (HRd.out.grow (alloc_below _ _))) ?_
           intro v8 w8 hA8
           have R8 := Lib.hid ((HRd.out.grow (alloc_below _ _)).app hA8 (by rw [ht2]))
           have X8 := (HXd.out.grow (alloc_below _ _)).app (RInv.own (HRd.out.grow (alloc_below _ _))) hA8.grown
           clear hA8))
      have HRe := Lib.hid R8.out
      go_wp2_with fail
      go_roundg (gk - 1)
      case measure => omega
      case rel => exact ⟨k + 1, by omega, by go_num, by rw [HF.out]; have := HRe.out; simp only [List.append_assoc] at this; exact this⟩
    · obtain rfl : k = m.procs.length := by omega
      have hlen := pk2_len HOk.out m.procs.length
      have p2 := hR.c2
      have HR := Lib.hid hR
      clear hR
      have HB1 := Lib.hid (beN1 (m.imports.length : Int) (by omega))
      have HB2 := Lib.hid (beN1' (m.imports.length : Int) (by omega) (by omega))
      go_wp2_with (at_builtin; refine wpList_app etBytes rfl _ _ rfl (w.heap.size + 1) _ _ _ rfl (RInv.own (HR.out.grow (alloc_below _ _))) _ 1 (byteVals (beN (m.imports.length : Int).toNat 1)).toList rfl (by first | (rw [HB1.out]; exact src_new etBytes _ _ _ 1 1 rfl (by simp [Value.oneCell'])) | (rw [HB2.out]; exact src_new etBytes _ _ _ 1 1 rfl (by simp [Value.oneCell']))) (by omega) (by unfold maxLen; omega) (RInv.size (HR.out.grow (alloc_below _ _))) ?_; intro u8 x8 hA8; have HR' := Lib.hid ((HR.out.grow (alloc_below _ _)).app hA8 (by rw [beN_length])); clear hA8; have p2 := HR'.out.c2)
      clear HR HB1 HB2 p1 p2
      have HR := HR'
      clear HR'
      clear p2
      go_loopg [3, 6] (m.imports.length) (fun g v i wr => ∃ k : Nat, k + g = m.imports.length ∧ i = .int .i64 k ∧ RInv w s m v (pk4 m k) wr)
      case atStart => exact ⟨0, by omega, rfl, by rw [show pk4 m 0 = pk3 m by simp [pk4]]; exact HR.out⟩
      case round =>
        clear HR
        obtain ⟨k, hk, rfl, hR⟩ := hrel
        have p2 := hR.c2
        have hlen4 := pk4_len HOk.out k
        by_cases hlt : k < m.imports.length
        · obtain ⟨bb, off, hA2, hbl, c0⟩ := Each.at_ (HI.out.imports.later hR.old (Nat.le_refl _)) hlt
          have HF := Lib.hid (show pk4 m (k + 1) = pk4 m k ++ impN (m.imports.getD k 0) by unfold pk4; rw [flat_take impN m.imports k 0 hlt, List.append_assoc])
          obtain ⟨r0, r1⟩ := HOk.out.imp (m.imports.getD k 0) (by rw [List.getD_eq_getElem?_getD, List.getElem?_eq_getElem hlt]; exact List.getElem_mem hlt)
          have HR := Lib.hid hR
          clear hR
          generalize m.imports.getD k 0 = x at *
          obtain ⟨A1, cc1, A2, cc2, A3, cc3⟩ := s
          simp only at hA2 ⊢
          subst hA2
          have hkI : (k : Int) < (m.imports.length : Int) := by omega
          simp only at p2
          rw [Nat.mul_one] at c0
          have HB1 := Lib.hid (beN1 x (by omega))
          have HB2 := Lib.hid (beN1' x (by omega) (by omega))
          go_wp2_with (at_builtin; refine wpList_app etBytes rfl _ _ rfl (w.heap.size + 1) _ _ _ rfl (RInv.own (HR.out.grow (alloc_below _ _))) _ 1 (byteVals (beN x.toNat 1)).toList rfl (by first | (rw [HB1.out]; exact src_new etBytes _ _ _ 1 1 rfl (by simp [Value.oneCell'])) | (rw [HB2.out]; exact src_new etBytes _ _ _ 1 1 rfl (by simp [Value.oneCell']))) (by omega) (by unfold maxLen; omega) (RInv.size (HR.out.grow (alloc_below _ _))) ?_; intro u9 x9 hA9; have HR' := Lib.hid ((HR.out.grow (alloc_below _ _)).app hA9 (by rw [beN_length])); clear hA9)
          clear HR HB1 HB2 p2 c0
          have HR := HR'
          clear HR'
          go_roundg (gk - 1)
          case measure => omega
          case rel => exact ⟨k + 1, by omega, by go_num, by rw [HF.out]; exact HR.out⟩
        · obtain rfl : k = m.imports.length := by omega
          have p3 := hR.c3
          have HR := Lib.hid hR
          clear hR
          go_wp2_with fail
          refine (refNumber2 _ (by omega) (by omega) _).mono ?_
          rintro e w10 ⟨v10, rfl, hown10, hb10⟩
          have HR10 := Lib.hid (HR.out.grow hb10)
          have HO10 := Lib.hid hown10
          clear hown10 hb10 HR p2 p3
          go_wp2_with (at_builtin; refine wpList_app etBytes rfl _ _ rfl (w.heap.size + 1) _ _ _ rfl HR10.out.own _ _ _ rfl (src_row HO10.out) (by simp only [List.length_append, beN_length]; omega) (by simp only [List.length_append, beN_length]; unfold maxLen; omega) HR10.out.size ?_; intro u10 x10 hA10; have HR' := Lib.hid (HR10.out.app hA10 rfl); clear hA10; have p4 := HR'.out.c4)
          clear HR10 HO10 
          have HR := HR'
          clear HR'
          refine (refNumber2 _ (by omega) (by omega) _).mono ?_
          rintro e w11 ⟨v11, rfl, hown11, hb11⟩
          have HR11 := Lib.hid (HR.out.grow hb11)
          have HO11 := Lib.hid hown11
          clear hown11 hb11 HR p4
          go_wp2_with (at_builtin; refine wpList_app etBytes rfl _ _ rfl (w.heap.size + 1) _ _ _ rfl HR11.out.own _ _ _ rfl (src_row HO11.out) (by simp only [List.length_append, beN_length]; omega) (by simp only [List.length_append, beN_length]; unfold maxLen; omega) HR11.out.size ?_; intro u11 x11 hA11; have HR' := Lib.hid (HR11.out.app hA11 rfl); clear hA11; have p4 := HR'.out.c4)
          clear HR11 HO11 
          have HR := HR'
          clear HR'
          clear p4
          go_loopg [3, 7] (m.init.length) (fun g v i wr => ∃ k : Nat, k + g = m.init.length ∧ i = .int .i64 k ∧ RInv w s m v (pk6 m k) wr)
          case atStart => exact ⟨0, by omega, rfl, by rw [show pk6 m 0 = pk5 m by simp [pk6]]; have := HR.out; rw [List.append_assoc] at this; exact this⟩
          case round =>
            clear HR
            obtain ⟨k, hk, rfl, hR⟩ := hrel
            have p4 := hR.c4
            have hlen6 := pk6_len HOk.out k
            by_cases hlt : k < m.init.length
            · obtain ⟨bb, off, hA3, hbl, c0, r0⟩ := Each.at_ (HI.out.init.later hR.old (Nat.le_refl _)) hlt
              have HF := Lib.hid (show pk6 m (k + 1) = pk6 m k ++ wordN (m.init.getD k 0) by unfold pk6; rw [flat_take wordN m.init k 0 hlt, List.append_assoc])
              have HR := Lib.hid hR
              clear hR
              generalize m.init.getD k 0 = x at *
              obtain ⟨A1, cc1, A2, cc2, A3, cc3⟩ := s
              simp only at hA3 ⊢
              subst hA3
              have hkI : (k : Int) < (m.init.length : Int) := by omega
              simp only at p4
              rw [Nat.mul_one] at c0
              go_wp2_with fail
              refine (refNumber2 _ (by omega) (by omega) _).mono ?_
              rintro e w12 ⟨v12, rfl, hown12, hb12⟩
              have HR12 := Lib.hid (HR.out.grow hb12)
              have HO12 := Lib.hid hown12
              clear hown12 hb12 HR p4 c0
              go_wp2_with (at_builtin; refine wpList_app etBytes rfl _ _ rfl (w.heap.size + 1) _ _ _ rfl HR12.out.own _ _ _ rfl (src_row HO12.out) (by simp only [List.length_append, beN_length]; omega) (by simp only [List.length_append, beN_length]; unfold maxLen; omega) HR12.out.size ?_; intro u12 x12 hA12; have HR' := Lib.hid (HR12.out.app hA12 rfl); clear hA12)
              clear HR12 HO12 
              have HR := HR'
              clear HR'
              go_roundg (gk - 1)
              case measure => omega
              case rel => exact ⟨k + 1, by omega, by go_num, by rw [HF.out]; exact HR.out⟩
            · obtain rfl : k = m.init.length := by omega
              rw [pk6_full] at hR
              have HR := Lib.hid hR
              clear hR
              go_wp2_with fail
              go_ret
              exact ⟨_, rfl, own_lower HR.out.own (by omega), HR.out.old⟩
set_option maxHeartbeats 400000 in
theorem refPack_any (s : MS) (m : ModL) (w : World) (hI : ModIn w s m) : Calls Try.prog 26 #[modV s m] w (PackEnd w (modOkB m) (packR m)) := by
  have HW := Lib.hid (alloc_below w (.cells #[.string ⟨m.code.toArray⟩, .slice s.A1 m.procs.length s.c1, .slice s.A2 m.imports.length s.c2, .int .i64 m.data, .slice s.A3 m.init.length s.c3] 41))
  have HX0 := Lib.hid (Box.new w (modCells s m) 41 (by decide))
  have HI := Lib.hid hI
  clear hI
  unfold modV
  go_enter Try.func26, Try.ntmps26
  go_wp2_with fail
  refine (refMayModule_any s m _ (HI.out.later HW.out (Nat.le_refl _))).mono ?_
  rintro e w1 ⟨rfl, hb1⟩
  have HB1 := Lib.hid ((box_below hb1).1)
  have HZ := Lib.hid (box_below hb1).2
  have HX := Lib.hid (HX0.out.grow hb1)
  have b0 : w1.cell? ⟨w.heap.size, 0, none⟩ = some (.string ⟨m.code.toArray⟩) := (HX.out.cell 0).trans rfl
  have b1 : w1.cell? ⟨w.heap.size, 1, none⟩ = some (.slice s.A1 m.procs.length s.c1) := (HX.out.cell 1).trans rfl
  have b2 : w1.cell? ⟨w.heap.size, 2, none⟩ = some (.slice s.A2 m.imports.length s.c2) := (HX.out.cell 2).trans rfl
  have b3 : w1.cell? ⟨w.heap.size, 3, none⟩ = some (.int .i64 m.data) := (HX.out.cell 3).trans rfl
  have b4 : w1.cell? ⟨w.heap.size, 4, none⟩ = some (.slice s.A3 m.init.length s.c3) := (HX.out.cell 4).trans rfl
  clear hb1 HX HX0
  cases hq : modOkB m
  · have HQ := Lib.hid hq
    clear hq
    go_wp2_with fail
    go_ret2
    exact packEnd_of (ok' := false) (l' := []) (by unfold packR; rw [HQ.out]; rfl) HQ.out.symm rfl HB1.out
  have HQ := Lib.hid hq
  clear hq
  go_wp2_with fail
  refine (packed_any s m _ (HI.out.later HB1.out (Nat.le_refl _)) (okM_of HQ.out)).mono ?_
  rintro e w2 ⟨v2, rfl, hown, hb2⟩
  have hconv := conv_own hown
  obtain ⟨A9, c9, rfl⟩ := own_slice' hown
  have HB2 := Lib.hid (HB1.out.trans (hb2.mono (Nat.le_of_lt HZ.out)))
  clear hb2 hown b0 b1 b2 b3 b4
  go_wp2_with fail
  go_ret2
  exact packEnd_of (ok' := true) (l' := packL m) (by unfold packR; rw [HQ.out]; rfl) HQ.out.symm rfl HB2.out
end Go.Proofs.Ytckbfocbainlpaa
