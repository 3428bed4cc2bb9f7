/- separatumlaw16.CodeBack: for every two rows of instructions, every bytes and every place it answers true. Conditions: what lies in memory can lie there. -/
import Derived.Test.YtgcmenjpcgdikaaDoorCr
import Derived.Test.YtgcmenjpcgdikaaDoorDa
import Derived.Test.YtgcmenjpcgdikaaDoorPt
namespace Go.Proofs.YtgcmenjpcgdikaaDoor
open Go.RowKit
set_option maxRecDepth 100000

theorem str_take (s : List UInt8) (k : Nat) : (⟨s.toArray⟩ : ByteArray).extract 0 k = ⟨(s.take k).toArray⟩ := by
  apply ByteArray.ext
  simp [ByteArray.extract, ByteArray.copySlice]

set_option maxHeartbeats 2000000 in
theorem codeBack_any (L M : Option Addr) (l m : List InsL) (cl cm : Nat) (s : List UInt8) (at_ : Nat) (hat : at_ < 256) (hl : l.length ≤ 9223372036854775807) (hm : m.length ≤ 9223372036854775807) (hs : s.length ≤ 9223372036854775807)
    (hlo : ∀ i ∈ l, i.1 < 256) (hmo : ∀ i ∈ m, i.1 < 256) (w : World) (ht : Tab w) (hL : Inss w L l) (hM : Inss w M m) :
    Calls Tryd.prog 4 #[.slice L l.length cl, .slice M m.length cm, .string ⟨s.toArray⟩, .int .u8 at_] w fun e w' => e = .returned (.bool true) ∧ Below w.heap.size w w' := by
  have HW := Lib.hid (Below.refl w.heap.size w)
  have HLO := Lib.hid hlo
  have HMO := Lib.hid hmo
  clear hlo hmo
  go_enter Tryd.func4, Tryd.ntmps4
  go_wp2_with fail
  refine (long_any L l cl hl _ hL).mono ?_
  rintro e w1 ⟨⟨b1, rfl, hb1⟩, rfl⟩
  cases b1
  case true =>
    go_wp2_with fail
    refine (alive_any _ (ht.later HW.out)).mono ?_
    rintro e w9 ⟨rfl, hb9⟩
    go_wp2_with fail
    go_ret
    exact ⟨rfl, HW.out.trans (hb9.mono HW.out.size)⟩
  case false =>
    have hl2 := hb1 rfl
    clear hb1
    go_wp2_with fail
    refine (long_any M m cm hm _ hM).mono ?_
    rintro e w1 ⟨⟨b2, rfl, hb2⟩, rfl⟩
    cases b2
    case true =>
      go_wp2_with fail
      refine (alive_any _ (ht.later HW.out)).mono ?_
      rintro e w9 ⟨rfl, hb9⟩
      go_wp2_with fail
      go_ret
      exact ⟨rfl, HW.out.trans (hb9.mono HW.out.size)⟩
    case false =>
      have hm2 := hb2 rfl
      clear hb2
      by_cases hs2 : 2048 < s.length
      · have g0 : decide ((2048 : Int) < (s.length : Int)) = true := by simp; omega
        go_wp2_with fail
        refine (alive_any _ (ht.later HW.out)).mono ?_
        rintro e w9 ⟨rfl, hb9⟩
        go_wp2_with fail
        go_ret
        exact ⟨rfl, HW.out.trans (hb9.mono HW.out.size)⟩
      · have g0 : decide ((2048 : Int) < (s.length : Int)) = false := by simp; omega
        go_wp2_with fail
        refine (encode_any L l cl (by omega) _ ht hL).mono ?_
        rintro e w1 ⟨rfl, hb1⟩
        go_wp2_with fail
        refine (encode_any M m cm (by omega) _ (ht.later hb1) (hM.later hb1 (Nat.le_refl _))).mono ?_
        rintro e w2 ⟨rfl, hb2⟩
        have HW := Lib.hid (hb1.trans (hb2.mono hb1.size))
        clear hb1 hb2
        have hel := encode_len l
        have HAL := Lib.hid (all_encode l HLO.out)
        have HIN := Lib.hid (fun a b => encode_inj l m HLO.out HMO.out a b)
        have HHD := Lib.hid (fun i r (h : l = i :: r) a (k : encodeL l = (a, 0)) => encode_head i r a (h ▸ k))
        generalize encodeL l = r1 at *
        generalize encodeL m = r2 at *
        obtain ⟨a, e⟩ := r1
        obtain ⟨b, f⟩ := r2
        simp only at hel ⊢
        by_cases he : e = 0
        · subst he
          obtain ⟨p, hal, hpl⟩ := HAL.out a rfl
          have HHD := Lib.hid (fun i r h => HHD.out i r h a rfl)
          have HIN := Lib.hid (fun b => HIN.out a b rfl)
          clear HAL
          go_wp2_with fail
          refine (all_any a (by omega) _ (ht.later HW.out)).mono ?_
          rw [hal]
          rintro e w3 ⟨v2, v3, rfl, hI⟩
          obtain ⟨X, capX, rfl, hX⟩ := hI.inss
          obtain ⟨Q, capQ, rfl, hQ⟩ := ints_own hI.own
          have HW := Lib.hid (HW.out.trans (hI.old.mono HW.out.size))
          have HXX := Lib.hid hX
          have HPL := Lib.hid hpl
          clear hI hQ hX hal
          simp only at HXX hpl ⊢
          rw [hpl]
          clear hpl
          go_wp2_with fail
          refine (sameAll_any X L l l capX cl (by omega) (by omega) _ HXX.out (hL.later HW.out (Nat.le_refl _))).mono ?_
          rintro e w4 ⟨rfl, hb4⟩
          have HW := Lib.hid (HW.out.trans (hb4.mono HW.out.size))
          clear hb4 HXX
          rw [decide_eq_true (rfl : l = l)]
          by_cases hf : f = 0
          · subst hf
            have HAB := Lib.hid (HIN.out b rfl)
            clear HIN
            go_wp2_with fail
            refine (sameAll_any L M l m cl cm (by omega) (by omega) _ (hL.later HW.out (Nat.le_refl _)) (hM.later HW.out (Nat.le_refl _))).mono ?_
            rintro e w5 ⟨rfl, hb5⟩
            have HW := Lib.hid (HW.out.trans (hb5.mono HW.out.size))
            clear hb5
            generalize hd : decide (l = m) = d
            have HD := Lib.hid hd
            clear hd
            have HS : (!(a == b) == d) = false := by
              rw [← HD.out]
              by_cases h : a = b
              · rw [decide_eq_true (HAB.out.1 h)]; simp [h]
              · rw [decide_eq_false (fun k => h (HAB.out.2 k))]; simp [h]
            clear HD HAB
            rcases (show l = [] ∨ ∃ i rr, l = i :: rr by cases l with | nil => exact .inl rfl | cons i r => exact .inr ⟨i, r, rfl⟩) with hll | ⟨i, rr, hll⟩
            · have g5 : l.length = 0 := by simp [hll]
              rw [g5]
              clear hll HHD
              go_wp2_with fail
              refine (all_any s (by omega) _ (ht.later HW.out)).mono ?_
              rintro e w7 ⟨v2, v3, rfl, hI⟩
              obtain ⟨X, capX, rfl, hX⟩ := hI.inss
              obtain ⟨Q, capQ, rfl, hQ⟩ := ints_own hI.own
              have HW := Lib.hid (HW.out.trans (hI.old.mono HW.out.size))
              have HXX := Lib.hid hX
              clear hI hQ hX
              have hxl := all_len' s
              have HAB := Lib.hid (encode_all s)
              generalize allL s = r at *
              obtain ⟨x, pp, g⟩ := r
              simp only at HXX HAB hxl ⊢
              by_cases hg : g = 0
              · have HE2 := Lib.hid (HAB.out hg)
                have g9 : (g != 0) = false := by simp [hg]
                clear hg HAB
                go_wp2_with fail
                refine (encode_any X x capX (by omega) _ (ht.later HW.out) HXX.out).mono ?_
                rw [HE2.out]
                rintro e w8 ⟨rfl, hb8⟩
                have HW := Lib.hid (HW.out.trans (hb8.mono HW.out.size))
                clear hb8 HXX
                dsimp only
                go_wp2_with fail
                refine (alive_any _ (ht.later HW.out)).mono ?_
                rintro e w9 ⟨rfl, hb9⟩
                go_wp2_with fail
                go_ret
                exact ⟨rfl, HW.out.trans (hb9.mono HW.out.size)⟩
              · have g9 : (g != 0) = true := by simp [hg]
                clear hg HAB HXX
                go_wp2_with fail
                refine (alive_any _ (ht.later HW.out)).mono ?_
                rintro e w9 ⟨rfl, hb9⟩
                go_wp2_with fail
                go_ret
                exact ⟨rfl, HW.out.trans (hb9.mono HW.out.size)⟩
            · obtain ⟨one, hone, hpos⟩ := HHD.out i rr hll
              have hlen : 0 < l.length := by rw [hll]; simp
              have hi0 : l.getD 0 (0, []) = i := by rw [hll]; rfl
              have g5 : decide ((0 : Int) < (l.length : Int)) = true := by simp; omega
              clear hll HHD
              obtain ⟨bb, off, rfl, hbb, hI0⟩ := hL.at_ hlen
              rw [hi0] at hI0
              obtain ⟨A, cA, q0, q1, hA, hn, hal⟩ := hI0
              obtain ⟨n, args⟩ := i
              simp only [Nat.zero_mul, Nat.add_zero] at hone q0 q1 hA hn hal
              clear hi0
              have k0 := (HW.out.cell (p := ⟨bb, off, none⟩) hbb).trans q0
              have k1 := (HW.out.cell (p := ⟨bb, off + 1, none⟩) hbb).trans q1
              have kz := Nat.lt_of_lt_of_le hbb HW.out.size
              have HA := Lib.hid (hA.later HW.out (Nat.le_refl _))
              clear hA
              go_wp2_with fail
              refine (encode_any _ [(n, args)] 1 (by simp) _ ((ht.later HW.out).alloc _) (inss1 (heap_alloc_new _ _) (HA.out.later ((Below.refl _ _).alloc (Nat.le_refl _) _) (Nat.le_refl _)) hn hal)).mono ?_
              rw [hone]
              rintro e w6 ⟨rfl, hb6⟩
              have hb6 := (box_below hb6).1
              have HA := Lib.hid (HA.out.later hb6 (Nat.le_refl _))
              have k0 := (hb6.cell (p := ⟨bb, off, none⟩) kz).trans k0
              have k1 := (hb6.cell (p := ⟨bb, off + 1, none⟩) kz).trans k1
              have kz := Nat.lt_of_lt_of_le kz hb6.size
              have HW := Lib.hid (HW.out.trans (hb6.mono HW.out.size))
              have HCUT := Lib.hid (cut_none n hn args one hone)
              have HSZ := Lib.hid (show (encodeL [(n, args)]).1.length = one.length by rw [hone])
              have hol : one.length ≤ 65535 := by have := encode_len [(n, args)]; rw [hone] at this; exact this
              clear hb6 hone q0 q1
              dsimp only
              obtain ⟨kk, hkk, hk1⟩ : ∃ kk : Nat, (at_ : Int) % max (one.length : Int) 1 = (kk : Int) ∧ kk < one.length :=
                ⟨at_ % one.length, by rw [show max (one.length : Int) 1 = (one.length : Int) by omega]; omega, Nat.mod_lt _ hpos⟩
              have hk2 : (kk : Int) ≤ (one.length : Int) := by omega
              go_wp2_with fail
              rw [str_take]
              refine (all_any (one.take kk) (by simp; omega) _ (ht.later HW.out)).mono ?_
              rintro e w7 ⟨v2, v3, rfl, hI⟩
              have hb7 := hI.old
              obtain ⟨Y, capY, rfl, hY⟩ := hI.inss
              obtain ⟨R, capR, rfl, hR⟩ := ints_own hI.own
              clear hI hY hR
              have HC := Lib.hid (HCUT.out kk hk1)
              clear HCUT
              generalize (allL (one.take kk)).2.2 = hh at *
              have g7 : ((hh == 0) == ((kk : Int) == 0)) = true := by
                by_cases h : kk = 0
                · rw [HC.out.2 h]; simp [h]
                · have : hh ≠ 0 := fun k => h (HC.out.1 k)
                  have e1 : (hh == 0) = false := by simpa using this
                  have e2 : ((kk : Int) == 0) = false := by simp; omega
                  rw [e1, e2]; rfl
              have g8 : ((hh == 0) != ((kk : Int) == 0)) = false := by simp only [bne, g7]; rfl
              have HA := Lib.hid (HA.out.later hb7 (Nat.le_refl _))
              have k0 := (hb7.cell (p := ⟨bb, off, none⟩) kz).trans k0
              have k1 := (hb7.cell (p := ⟨bb, off + 1, none⟩) kz).trans k1
              have kz := Nat.lt_of_lt_of_le kz hb7.size
              have HW := Lib.hid (HW.out.trans (hb7.mono HW.out.size))
              clear hb7
              go_wp2_with fail
              refine (size_any n hn A args cA hal _ (ht.later HW.out) HA.out).mono ?_
              rw [HSZ.out]
              rintro e w8 ⟨rfl, hb8⟩
              have HW := Lib.hid (HW.out.trans (hb8.mono HW.out.size))
              clear hb8 HA k0 k1 kz HSZ
              go_wp2_with fail
              refine (all_any s (by omega) _ (ht.later HW.out)).mono ?_
              rintro e w7 ⟨v2, v3, rfl, hI⟩
              obtain ⟨X, capX, rfl, hX⟩ := hI.inss
              obtain ⟨Q, capQ, rfl, hQ⟩ := ints_own hI.own
              have HW := Lib.hid (HW.out.trans (hI.old.mono HW.out.size))
              have HXX := Lib.hid hX
              clear hI hQ hX
              have hxl := all_len' s
              have HAB := Lib.hid (encode_all s)
              generalize allL s = r at *
              obtain ⟨x, pp, g⟩ := r
              simp only at HXX HAB hxl ⊢
              by_cases hg : g = 0
              · have HE2 := Lib.hid (HAB.out hg)
                have g9 : (g != 0) = false := by simp [hg]
                clear hg HAB
                go_wp2_with fail
                refine (encode_any X x capX (by omega) _ (ht.later HW.out) HXX.out).mono ?_
                rw [HE2.out]
                rintro e w8 ⟨rfl, hb8⟩
                have HW := Lib.hid (HW.out.trans (hb8.mono HW.out.size))
                clear hb8 HXX
                dsimp only
                go_wp2_with fail
                refine (alive_any _ (ht.later HW.out)).mono ?_
                rintro e w9 ⟨rfl, hb9⟩
                go_wp2_with fail
                go_ret
                exact ⟨rfl, HW.out.trans (hb9.mono HW.out.size)⟩
              · have g9 : (g != 0) = true := by simp [hg]
                clear hg HAB HXX
                go_wp2_with fail
                refine (alive_any _ (ht.later HW.out)).mono ?_
                rintro e w9 ⟨rfl, hb9⟩
                go_wp2_with fail
                go_ret
                exact ⟨rfl, HW.out.trans (hb9.mono HW.out.size)⟩
          · have gf : (f == 0) = false := by simp [hf]
            clear hf HIN
            rcases (show l = [] ∨ ∃ i rr, l = i :: rr by cases l with | nil => exact .inl rfl | cons i r => exact .inr ⟨i, r, rfl⟩) with hll | ⟨i, rr, hll⟩
            · have g5 : l.length = 0 := by simp [hll]
              rw [g5]
              clear hll HHD
              go_wp2_with fail
              refine (all_any s (by omega) _ (ht.later HW.out)).mono ?_
              rintro e w7 ⟨v2, v3, rfl, hI⟩
              obtain ⟨X, capX, rfl, hX⟩ := hI.inss
              obtain ⟨Q, capQ, rfl, hQ⟩ := ints_own hI.own
              have HW := Lib.hid (HW.out.trans (hI.old.mono HW.out.size))
              have HXX := Lib.hid hX
              clear hI hQ hX
              have hxl := all_len' s
              have HAB := Lib.hid (encode_all s)
              generalize allL s = r at *
              obtain ⟨x, pp, g⟩ := r
              simp only at HXX HAB hxl ⊢
              by_cases hg : g = 0
              · have HE2 := Lib.hid (HAB.out hg)
                have g9 : (g != 0) = false := by simp [hg]
                clear hg HAB
                go_wp2_with fail
                refine (encode_any X x capX (by omega) _ (ht.later HW.out) HXX.out).mono ?_
                rw [HE2.out]
                rintro e w8 ⟨rfl, hb8⟩
                have HW := Lib.hid (HW.out.trans (hb8.mono HW.out.size))
                clear hb8 HXX
                dsimp only
                go_wp2_with fail
                refine (alive_any _ (ht.later HW.out)).mono ?_
                rintro e w9 ⟨rfl, hb9⟩
                go_wp2_with fail
                go_ret
                exact ⟨rfl, HW.out.trans (hb9.mono HW.out.size)⟩
              · have g9 : (g != 0) = true := by simp [hg]
                clear hg HAB HXX
                go_wp2_with fail
                refine (alive_any _ (ht.later HW.out)).mono ?_
                rintro e w9 ⟨rfl, hb9⟩
                go_wp2_with fail
                go_ret
                exact ⟨rfl, HW.out.trans (hb9.mono HW.out.size)⟩
            · obtain ⟨one, hone, hpos⟩ := HHD.out i rr hll
              have hlen : 0 < l.length := by rw [hll]; simp
              have hi0 : l.getD 0 (0, []) = i := by rw [hll]; rfl
              have g5 : decide ((0 : Int) < (l.length : Int)) = true := by simp; omega
              clear hll HHD
              obtain ⟨bb, off, rfl, hbb, hI0⟩ := hL.at_ hlen
              rw [hi0] at hI0
              obtain ⟨A, cA, q0, q1, hA, hn, hal⟩ := hI0
              obtain ⟨n, args⟩ := i
              simp only [Nat.zero_mul, Nat.add_zero] at hone q0 q1 hA hn hal
              clear hi0
              have k0 := (HW.out.cell (p := ⟨bb, off, none⟩) hbb).trans q0
              have k1 := (HW.out.cell (p := ⟨bb, off + 1, none⟩) hbb).trans q1
              have kz := Nat.lt_of_lt_of_le hbb HW.out.size
              have HA := Lib.hid (hA.later HW.out (Nat.le_refl _))
              clear hA
              go_wp2_with fail
              refine (encode_any _ [(n, args)] 1 (by simp) _ ((ht.later HW.out).alloc _) (inss1 (heap_alloc_new _ _) (HA.out.later ((Below.refl _ _).alloc (Nat.le_refl _) _) (Nat.le_refl _)) hn hal)).mono ?_
              rw [hone]
              rintro e w6 ⟨rfl, hb6⟩
              have hb6 := (box_below hb6).1
              have HA := Lib.hid (HA.out.later hb6 (Nat.le_refl _))
              have k0 := (hb6.cell (p := ⟨bb, off, none⟩) kz).trans k0
              have k1 := (hb6.cell (p := ⟨bb, off + 1, none⟩) kz).trans k1
              have kz := Nat.lt_of_lt_of_le kz hb6.size
              have HW := Lib.hid (HW.out.trans (hb6.mono HW.out.size))
              have HCUT := Lib.hid (cut_none n hn args one hone)
              have HSZ := Lib.hid (show (encodeL [(n, args)]).1.length = one.length by rw [hone])
              have hol : one.length ≤ 65535 := by have := encode_len [(n, args)]; rw [hone] at this; exact this
              clear hb6 hone q0 q1
              dsimp only
              obtain ⟨kk, hkk, hk1⟩ : ∃ kk : Nat, (at_ : Int) % max (one.length : Int) 1 = (kk : Int) ∧ kk < one.length :=
                ⟨at_ % one.length, by rw [show max (one.length : Int) 1 = (one.length : Int) by omega]; omega, Nat.mod_lt _ hpos⟩
              have hk2 : (kk : Int) ≤ (one.length : Int) := by omega
              go_wp2_with fail
              rw [str_take]
              refine (all_any (one.take kk) (by simp; omega) _ (ht.later HW.out)).mono ?_
              rintro e w7 ⟨v2, v3, rfl, hI⟩
              have hb7 := hI.old
              obtain ⟨Y, capY, rfl, hY⟩ := hI.inss
              obtain ⟨R, capR, rfl, hR⟩ := ints_own hI.own
              clear hI hY hR
              have HC := Lib.hid (HCUT.out kk hk1)
              clear HCUT
              generalize (allL (one.take kk)).2.2 = hh at *
              have g7 : ((hh == 0) == ((kk : Int) == 0)) = true := by
                by_cases h : kk = 0
                · rw [HC.out.2 h]; simp [h]
                · have : hh ≠ 0 := fun k => h (HC.out.1 k)
                  have e1 : (hh == 0) = false := by simpa using this
                  have e2 : ((kk : Int) == 0) = false := by simp; omega
                  rw [e1, e2]; rfl
              have g8 : ((hh == 0) != ((kk : Int) == 0)) = false := by simp only [bne, g7]; rfl
              have HA := Lib.hid (HA.out.later hb7 (Nat.le_refl _))
              have k0 := (hb7.cell (p := ⟨bb, off, none⟩) kz).trans k0
              have k1 := (hb7.cell (p := ⟨bb, off + 1, none⟩) kz).trans k1
              have kz := Nat.lt_of_lt_of_le kz hb7.size
              have HW := Lib.hid (HW.out.trans (hb7.mono HW.out.size))
              clear hb7
              go_wp2_with fail
              refine (size_any n hn A args cA hal _ (ht.later HW.out) HA.out).mono ?_
              rw [HSZ.out]
              rintro e w8 ⟨rfl, hb8⟩
              have HW := Lib.hid (HW.out.trans (hb8.mono HW.out.size))
              clear hb8 HA k0 k1 kz HSZ
              go_wp2_with fail
              refine (all_any s (by omega) _ (ht.later HW.out)).mono ?_
              rintro e w7 ⟨v2, v3, rfl, hI⟩
              obtain ⟨X, capX, rfl, hX⟩ := hI.inss
              obtain ⟨Q, capQ, rfl, hQ⟩ := ints_own hI.own
              have HW := Lib.hid (HW.out.trans (hI.old.mono HW.out.size))
              have HXX := Lib.hid hX
              clear hI hQ hX
              have hxl := all_len' s
              have HAB := Lib.hid (encode_all s)
              generalize allL s = r at *
              obtain ⟨x, pp, g⟩ := r
              simp only at HXX HAB hxl ⊢
              by_cases hg : g = 0
              · have HE2 := Lib.hid (HAB.out hg)
                have g9 : (g != 0) = false := by simp [hg]
                clear hg HAB
                go_wp2_with fail
                refine (encode_any X x capX (by omega) _ (ht.later HW.out) HXX.out).mono ?_
                rw [HE2.out]
                rintro e w8 ⟨rfl, hb8⟩
                have HW := Lib.hid (HW.out.trans (hb8.mono HW.out.size))
                clear hb8 HXX
                dsimp only
                go_wp2_with fail
                refine (alive_any _ (ht.later HW.out)).mono ?_
                rintro e w9 ⟨rfl, hb9⟩
                go_wp2_with fail
                go_ret
                exact ⟨rfl, HW.out.trans (hb9.mono HW.out.size)⟩
              · have g9 : (g != 0) = true := by simp [hg]
                clear hg HAB HXX
                go_wp2_with fail
                refine (alive_any _ (ht.later HW.out)).mono ?_
                rintro e w9 ⟨rfl, hb9⟩
                go_wp2_with fail
                go_ret
                exact ⟨rfl, HW.out.trans (hb9.mono HW.out.size)⟩
        · have ge : (e == 0) = false := by simp [he]
          clear he HAL HIN HHD
          go_wp2_with fail
          refine (all_any s (by omega) _ (ht.later HW.out)).mono ?_
          rintro e w7 ⟨v2, v3, rfl, hI⟩
          obtain ⟨X, capX, rfl, hX⟩ := hI.inss
          obtain ⟨Q, capQ, rfl, hQ⟩ := ints_own hI.own
          have HW := Lib.hid (HW.out.trans (hI.old.mono HW.out.size))
          have HXX := Lib.hid hX
          clear hI hQ hX
          have hxl := all_len' s
          have HAB := Lib.hid (encode_all s)
          generalize allL s = r at *
          obtain ⟨x, pp, g⟩ := r
          simp only at HXX HAB hxl ⊢
          by_cases hg : g = 0
          · have HE2 := Lib.hid (HAB.out hg)
            have g9 : (g != 0) = false := by simp [hg]
            clear hg HAB
            go_wp2_with fail
            refine (encode_any X x capX (by omega) _ (ht.later HW.out) HXX.out).mono ?_
            rw [HE2.out]
            rintro e w8 ⟨rfl, hb8⟩
            have HW := Lib.hid (HW.out.trans (hb8.mono HW.out.size))
            clear hb8 HXX
            dsimp only
            go_wp2_with fail
            refine (alive_any _ (ht.later HW.out)).mono ?_
            rintro e w9 ⟨rfl, hb9⟩
            go_wp2_with fail
            go_ret
            exact ⟨rfl, HW.out.trans (hb9.mono HW.out.size)⟩
          · have g9 : (g != 0) = true := by simp [hg]
            clear hg HAB HXX
            go_wp2_with fail
            refine (alive_any _ (ht.later HW.out)).mono ?_
            rintro e w9 ⟨rfl, hb9⟩
            go_wp2_with fail
            go_ret
            exact ⟨rfl, HW.out.trans (hb9.mono HW.out.size)⟩
end Go.Proofs.YtgcmenjpcgdikaaDoor
