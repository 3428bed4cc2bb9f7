/- The document's All; the law's numbers. Conditions: what lies in memory can lie there. -/
import Derived.Test.YtgcmenjpcgdikaaDoorRf
import Derived.Test.YtgcmenjpcgdikaaDoorCp
import Derived.Test.YtgcmenjpcgdikaaDoorDa
namespace Go.Proofs.YtgcmenjpcgdikaaDoor
open Go.RowKit
set_option maxRecDepth 100000

theorem refDecode_any (s : List UInt8) (hs : s.length ≤ 4294967296) (at_ : Int) (w : World) :
    Calls Tryd.prog 10 #[.string ⟨s.toArray⟩, .int .i64 at_] w (DecEnd w (decodeL s at_)) := by
  unfold decodeL
  by_cases h : at_ < 0 ∨ (s.length : Int) ≤ at_
  · rw [if_pos h]; exact refDec_out s hs at_ h w
  · rw [if_neg h]
    obtain ⟨k, rfl⟩ := Int.eq_ofNat_of_zero_le (show 0 ≤ at_ by omega)
    rw [Int.toNat_natCast]
    by_cases hT : thereB (s.getD k 0).toNat = false
    · rw [if_pos hT]; exact refDec_none s hs k (by omega) _ rfl hT w
    · rw [if_neg hT]; exact refDec_main s hs k (by omega) _ rfl (by simpa using hT) w

set_option maxHeartbeats 1000000 in
theorem refAll_any (s : List UInt8) (hs : s.length ≤ 4294967296) (w : World) :
    Calls Tryd.prog 12 #[.string ⟨s.toArray⟩] w (AllEnd w (allL s)) := by
  by_cases hlong : 65535 < s.length
  · have HR := Lib.hid (show allL s = ([], [], 5) by unfold allL; rw [if_pos hlong])
    go_enter Tryd.func12, Tryd.ntmps12
    go_wp2_with fail
    go_ret3
    rw [HR.out]
    exact ⟨_, _, rfl, ⟨[], ⟨rfl, .inl ⟨rfl, rfl⟩⟩, fun j hj => by simp at hj⟩, ⟨rfl, .inl ⟨rfl, rfl⟩⟩, Below.refl _ _⟩
  · have hd : decide (65535 < (s.length : Int)) = false := by simp; omega
    have HR := Lib.hid (show allL s = joinA [] [] (allGo s (s.length + 1) 0) by
      unfold allL; rw [if_neg hlong, join_nil])
    generalize allL s = res at *
    obtain ⟨i0, hi0, hz0, hz1, hz2⟩ := info_parts int_info
    obtain ⟨j0, hj0, hy0, hy1, hy2⟩ := info_parts ins_info
    go_enter Tryd.func12, Tryd.ntmps12
    go_wp2_with fail
    go_loopg [5, 6, 7] s.length (fun g v2 v3 i wr => ∃ (a f : Nat) (l : List InsL) (p : List Int), a + g = s.length ∧ s.length < a + f + 1 ∧ i = .int .i64 a ∧ res = joinA l p (allGo s (f + 1) a) ∧ l.length ≤ a ∧ p.length = l.length ∧ AllInv w l p v2 v3 wr)
    case atStart => exact ⟨0, s.length, [], [], by omega, by omega, rfl, HR.out, Nat.le_refl _, rfl, ⟨[], ⟨rfl, .inl ⟨rfl, rfl⟩⟩, fun j hj => by simp at hj⟩, ⟨rfl, .inl ⟨rfl, rfl⟩⟩, Below.refl _ _⟩
    case round =>
      clear HR
      obtain ⟨a, f, l, p, ha, hf, rfl, hres, hla, hpl, hI⟩ := hrel
      have HI := Lib.hid hI
      have HRES := Lib.hid hres
      have HP := Lib.hid hpl
      clear hI hres hpl
      by_cases hlt : a < s.length
      · have HERR := Lib.hid (fun h => join_err s f a hlt h l p)
        have HSTEP := Lib.hid (fun h => join_step s f a hlt h l p)
        have HNEXT := Lib.hid (decode_next s a hlt)
        go_wp2_with fail
        refine (refDecode_any s hs a _).mono ?_
        rintro e w5 ⟨v, rfl, hv, hb5⟩
        obtain ⟨A, cap, hvv, hA⟩ := fresh_ints (v3 := u6) hv (fun b hb => (own_size HI.out.own hb).1)
        subst hvv
        have HA := Lib.hid hA
        have HI5 := Lib.hid (HI.out.later hb5)
        clear hv hA hb5 HI
        generalize hdd : decodeL s (a : Int) = d at *
        clear hdd
        obtain ⟨⟨n, args⟩, nx, er⟩ := d
        simp only at HERR HSTEP HNEXT HA ⊢
        by_cases her : er = 0
        · have e1 : (er != 0) = false := by simp [her]
          obtain ⟨b, hnb, hab, hbs, hn, hl⟩ := HNEXT.out her
          subst hnb
          have HS := Lib.hid (HSTEP.out her)
          clear HSTEP HERR her
          obtain ⟨xs, hx2, hxr⟩ := HI5.out.row
          have hx3 := HI5.out.own
          have hw5 := HI5.out.old.size
          have B2 := Lib.hid ((hx2.alloc (.cells #[.int .u8 n, .slice A args.length cap] 25)).alloc (.cells #[.int .u8 n, .slice A args.length cap] 25))
          have hbl : Below w5.heap.size w5 ((w5.alloc (.cells #[.int .u8 n, .slice A args.length cap] 25)).alloc (.cells #[.int .u8 n, .slice A args.length cap] 25)) := ((Below.refl _ _).alloc (Nat.le_refl _) _).alloc (by simp) _
          have B3 := Lib.hid (own_later hx3 hbl)
          have BR := Lib.hid (hxr.keep (v' := u6) fun b cs fz hh hv => ⟨hbl.block b (lt_of_get hh), hv⟩)
          have BA := Lib.hid (HA.out.keep (v' := u6) fun b cs fz hh hv => ⟨hbl.block b (lt_of_get hh), hv⟩)
          have BO := Lib.hid (HI5.out.old.trans (hbl.mono hw5))
          have hm1 : l.length + 1 ≤ maxLen := by unfold maxLen; omega
          have hm2 : (l.length + 1) * 32 ≤ 140737488355328 := by omega
          have hm3 : p.length + 1 ≤ maxLen := by rw [HP.out]; exact hm1
          have hm4 : (p.length + 1) * 8 ≤ 140737488355328 := by rw [HP.out]; omega
          clear hx2 hxr hx3 hbl HA HI5
          go_wp2_with (first
            | (at_builtin; refine wpList_append_own_at _ rfl (.tmp 28) (.tmp 30) 31 rfl w.heap.size 25 j0 _ 2 32 Tryd.underlying31 hj0 hy0 hy1 hy2 rfl (by omega) u5 l.length xs rfl B2.out ⟨w5.heap.size + 1, 0, none⟩ 1 1 [.int .u8 n, .slice A args.length cap] rfl rfl (news2 _ _ _ _ _) (by simp [Value.oneCell']) hm1 hm2 (by simp; omega) ?_; intro v2' w6 hown6 hg6 _ hat6; have M := Lib.hid (AllInv.step1 n args A cap B2.out BR.out B3.out BO.out BA.out hn hl hown6 hg6); clear hown6 hg6 hat6)
            | (at_builtin; refine wpList_append_own_at _ rfl (.tmp 32) (.tmp 34) 23 rfl w.heap.size 3 i0 _ 1 8 Tryd.underlying23 hi0 hz0 hz1 hz2 rfl (by omega) u6 p.length (p.map (Value.int .i64)) rfl (M.out.own.alloc _) ⟨w6.heap.size, 0, none⟩ 1 1 [.int .i64 a] rfl rfl (cell_one_new _ _ _) (by simp [Value.oneCell']) hm3 hm4 (by have := M.out.old.size; simp; omega) ?_; intro v3' w7 hown7 hg7 _ hat7; have N := Lib.hid (M.out.step2 _ hown7 hg7 (by simpa using hat7)); clear hown7 hg7 hat7))
          go_roundg (s.length - b)
          case measure => omega
          case rel =>
            obtain ⟨f', rfl⟩ : ∃ f', f = f' + 1 := ⟨f - 1, by omega⟩
            refine ⟨b, f', l ++ [(n, args)], p ++ [(a : Int)], by omega, by omega, rfl, ?_, by simp; omega, by simp [HP.out], N.out⟩
            rw [HRES.out, HS.out, Int.toNat_natCast]
        · have e1 : (er != 0) = true := by simp [her]
          have HE := Lib.hid (HERR.out her)
          have HO := Lib.hid (HI5.out.old)
          clear HERR HSTEP HNEXT her HA HI5
          go_wp2_with fail
          go_ret3
          rw [HRES.out, HE.out]
          exact ⟨_, _, rfl, ⟨[], ⟨rfl, .inl ⟨rfl, rfl⟩⟩, fun j hj => by simp at hj⟩, ⟨rfl, .inl ⟨rfl, rfl⟩⟩, HO.out.alloc HO.out.size _⟩
      · have HE := Lib.hid (join_end s f a hlt l p)
        have hge : s.length ≤ a := by omega
        clear hlt
        go_wp2_with fail
        go_ret3
        rw [HRES.out, HE.out]
        exact ⟨_, _, rfl, HI.out⟩

set_option maxHeartbeats 600000 in
theorem numbersEq_any (A B : Option Addr) (a b : List Int) (ca cb : Nat) (ha : a.length ≤ 17592186044416) (hb : b.length ≤ 17592186044416) (w : World) (hA : Ints w A a) (hB : Ints w B b) :
    Calls Tryd.prog 15 #[.slice A a.length ca, .slice B b.length cb] w fun e w' => e = .returned (.bool (decide (a = b))) ∧ Below w.heap.size w w' := by
  by_cases h2 : a.length = b.length
  · have g2 : ((a.length : Int) != (b.length : Int)) = false := by simp [h2]
    have H2 := Lib.hid h2
    clear h2
    go_enter Tryd.func15, Tryd.ntmps15
    go_wp2_with fail
    go_loopg [5] (a.length) (fun g i wr => ∃ k : Nat, k + g = a.length ∧ i = .int .i64 k ∧ (∀ j, j < k → a.getD j 0 = b.getD j 0) ∧ Below w.heap.size w wr)
    case atStart => exact ⟨0, by omega, rfl, fun j hj => by omega, Below.refl _ _⟩
    case round =>
      obtain ⟨k, hk, rfl, heq, hbw⟩ := hrel
      have HEQ := Lib.hid heq
      clear heq
      by_cases hlt : k < a.length
      · have hlt2 : k < b.length := by have := H2.out; omega
        obtain ⟨b1, o1, rfl, l1, q1⟩ := (hA.later hbw (Nat.le_refl _)).at_ hlt
        obtain ⟨b2, o2, rfl, l2, q2⟩ := (hB.later hbw (Nat.le_refl _)).at_ hlt2
        clear hA hB
        have hkI : (k : Int) < (a.length : Int) := by omega
        have hkJ : (k : Int) < (b.length : Int) := by omega
        generalize hx : a.getD k 0 = x at *
        generalize hy : b.getD k 0 = y at *
        have HX := Lib.hid hx
        have HY := Lib.hid hy
        clear hx hy
        by_cases he : x = y
        · have g3 : (x != y) = false := by simp [he]
          have HE := Lib.hid he
          clear he
          go_wp2_with fail
          go_quiet (fail)
          go_wp2_with fail
          go_roundg (gk - 1)
          case measure => omega
          case rel =>
            refine ⟨k + 1, by omega, by go_num, ?_, below_drawn hbw nq⟩
            intro j hj
            rcases Nat.lt_or_ge j k with h | h
            · exact HEQ.out j h
            · obtain rfl : j = k := by omega
              rw [HX.out, HY.out, HE.out]
        · have g3 : (x != y) = true := by simp [he]
          have HE := Lib.hid he
          clear he
          go_wp2_with fail
          go_quiet (fail)
          go_wp2_with fail
          go_ret
          refine ⟨ret1 (vbool (decide_eq_false fun h => ?_).symm), below_drawn hbw nq⟩
          exact HE.out (by rw [← HX.out, ← HY.out, h])
      · obtain rfl : k = a.length := by omega
        go_wp2_with fail
        go_ret
        exact ⟨ret1 (vbool (decide_eq_true (eq_of_getD 0 a b H2.out HEQ.out)).symm), hbw⟩
  · have g2 : ((a.length : Int) != (b.length : Int)) = true := by simp; omega
    have H2 := Lib.hid h2
    clear h2
    go_enter Tryd.func15, Tryd.ntmps15
    go_wp2_with fail
    go_ret
    exact ⟨ret1 (vbool (decide_eq_false fun h => H2.out (by rw [h])).symm), Below.refl _ _⟩
end Go.Proofs.YtgcmenjpcgdikaaDoor
