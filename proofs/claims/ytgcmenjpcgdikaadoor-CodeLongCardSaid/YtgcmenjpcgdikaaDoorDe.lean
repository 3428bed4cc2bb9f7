/- separatumlaw16.CodeLong: for every number next to the bounds it answers true. No condition. -/
import Derived.Test.YtgcmenjpcgdikaaDoorCr
import Derived.Test.YtgcmenjpcgdikaaDoorPv
import Derived.Test.YtgcmenjpcgdikaaDoorBy
import Derived.OwnWalk
import Derived.Deep.DeepCutAuto
namespace Go.Proofs.YtgcmenjpcgdikaaDoor
open Go.RowKit
set_option maxRecDepth 100000

theorem etIns : ET Tryd.prog 31 25 2 32 := et_of Tryd.underlying31 ins_info rfl (by omega)
theorem src_new_at {P : Program} {t e : TypeId} {size bytes : Nat} (E : ET P t e size bytes) (w : World) (cs : Array Value) (T : TypeId) (m c H : Nat) (hH : w.heap.size = H) (hl : cs.size = m * size) (h1 : ∀ u ∈ cs.toList, u.oneCell' = true) : Src P size t (.slice (some ⟨H, 0, none⟩) m c) m cs.toList (w.alloc (.cells cs T)) := by
  subst hH; exact src_new E w cs T m c hl h1
/-- A row of instructions that the law itself lays. -/
def LInv (w : World) (l : List InsL) (v : Value) (wr : World) : Prop := AllInv w l [] v (.slice none 0 0) wr
theorem LInv.start (w wr : World) (h : Below w.heap.size w wr) : LInv w [] (.slice none 0 0) wr :=
  ⟨⟨[], World.ownsRow_nil .., fun j hj => by simp at hj⟩, World.ownsRow_nil .., h⟩
theorem LInv.later {w wr wx : World} {l : List InsL} {v : Value} (h : LInv w l v wr) (hb : Below wr.heap.size wr wx) : LInv w l v wx := AllInv.later h hb
theorem LInv.step {w W w6 : World} {l : List InsL} {v v' : Value} {xs : List Value} (n : Nat) (args : List Int) (A : Option Addr) (cap : Nat) (h2 : W.ownsRow w.heap.size 25 2 v l.length xs) (hr : RowsOf W (.slice none 0 0) l xs) (hold : Below w.heap.size w W)
    (hA : IntsF W (.slice none 0 0) A args) (hn : n < 256) (hl : args.length ≤ 769) (h : App W w6 w.heap.size 25 2 v v' (l.length + 1) (xs ++ [.int .u8 n, .slice A args.length cap])) : LInv w (l ++ [(n, args)]) v' w6 := by
  have M := AllInv.step1 (p := []) (v3 := .slice none 0 0) n args A cap h2 hr (World.ownsRow_nil ..) hold hA hn hl h.own h.grown
  exact ⟨M.row, M.own, M.old⟩

theorem tmod_neg (a : Int) (h : a ≤ 0) : -3 ≤ a.tmod 4 ∧ a.tmod 4 ≤ 0 := by
  have e : a.tmod 4 = -((-a) % 4) := by
    have := Int.neg_tmod (-a) 4
    rw [Int.neg_neg] at this
    rw [this, Int.tmod_eq_emod_of_nonneg (show 0 ≤ -a by omega)]
  rw [e]; omega
theorem ints_made {w : World} {B : Nat} {b n : Nat} (h : w.ownsRow B 3 1 (.slice (some ⟨b, 0, none⟩) n n) n (madeCells (Value.int .i64 0).cells (n * 1)).toList) : Ints w (some ⟨b, 0, none⟩) (zeros n) := by
  have h' := h
  rw [show (Value.int .i64 0).cells = #[Value.int .i64 0] from rfl, toList_madeCells_one, Nat.mul_one] at h'
  have e : List.replicate n (Value.int .i64 0) = (zeros n).map (Value.int .i64) := by simp [zeros]
  rw [e] at h'
  have hn : n = (zeros n).length := (zeros_len n).symm
  obtain ⟨P, cap, hv, hI⟩ := ints_own (p := zeros n) (v3 := .slice (some ⟨b, 0, none⟩) n n) (by rw [← hn]; exact h')
  injection hv with hv1 hv2 hv3
  rw [hv1]; exact hI
theorem bytes_made {w : World} {B : Nat} {v : Value} {n : Nat} (h : w.ownsRow B 5 1 v n (madeCells (Value.int .u8 0).cells (n * 1)).toList) : w.ownsRow B 5 1 v n (byteVals (List.replicate n 0)).toList := by
  rw [show (Value.int .u8 0).cells = #[Value.int .u8 0] from rfl, toList_madeCells_one, Nat.mul_one] at h
  have e : (byteVals (List.replicate n 0)).toList = List.replicate n (Value.int .u8 0) := by simp [byteVals]
  rw [e]; exact h
theorem below_made {B : Nat} {w0 w w' : World} (h : Below B w0 w) (hB : B ≤ w.heap.size) (hg : w.grownBy w' none) : Below B w0 w' := h.grown hg hB (fun k hk => by cases hk)

set_option maxHeartbeats 4000000 in
theorem codeLong_any (over : Int) (h1 : -128 ≤ over) (h2 : over ≤ 127) (w : World) (ht : Tab w) :
    Calls Tryd.prog 6 #[.int .i8 over] w fun e w' => e = .returned (.bool true) ∧ Below w.heap.size w w' := by
  obtain ⟨N, hN⟩ : ∃ N : Nat, (N : Int) = 65535 + over := ⟨(65535 + over).toNat, by omega⟩
  have HN := Lib.hid hN
  have hN1 : 65407 ≤ N := by omega
  have hN2 : N ≤ 65662 := by omega
  clear hN
  go_enter Tryd.func6, Tryd.ntmps6
  go_upto_region 1 with (fail)
  go_cut [3] (fun v wx => v = .int .i64 (N : Nat) ∧ w = wx)
  case first =>
    go_wp2_with fail
    go_meet
    exact ⟨vint (by rw [HN.out]), rfl⟩
  case rest =>
    obtain ⟨rfl, rfl⟩ := hcut
    go_wp2_with fail
    go_loopg [4, 5] (N / 3) (fun g v i wr => ∃ k : Nat, k + g = N / 3 ∧ i = .int .i64 k ∧ LInv w (litRow k) v wr)
    case atStart => exact ⟨0, by omega, rfl, LInv.start _ _ (Below.refl _ _)⟩
    case round =>
      obtain ⟨k, hk, rfl, hI⟩ := hrel
      by_cases hlt : k < N / 3
      · have g1 : decide ((k : Int) < (N : Int) / 3) = true := by simp; omega
        obtain ⟨xs, hx2, hxr⟩ := hI.row
        have hold := hI.old
        have hks := litRow_len k
        rw [hks] at hx2
        have HI := Lib.hid hI
        have hsz := hold.size
        have hbl : Below wr.heap.size wr ((wr.alloc (.cells #[.int .i64 (k : Int)] 3)).alloc (.cells #[.int .u8 40, .slice (some ⟨wr.heap.size, 0, none⟩) 1 1] 25)) := ((Below.refl _ _).alloc (Nat.le_refl _) _).alloc (by simp) _
        have B2 := Lib.hid ((hx2.alloc (.cells #[.int .i64 (k : Int)] 3)).alloc (.cells #[.int .u8 40, .slice (some ⟨wr.heap.size, 0, none⟩) 1 1] 25))
        have BR := Lib.hid (hxr.keep (v' := .slice none 0 0) fun b cs fz hh hv => ⟨hbl.block b (lt_of_get hh), hv⟩)
        have BO := Lib.hid (hold.trans (hbl.mono hsz))
        have BA : Hid (IntsF ((wr.alloc (.cells #[.int .i64 (k : Int)] 3)).alloc (.cells #[.int .u8 40, .slice (some ⟨wr.heap.size, 0, none⟩) 1 1] 25)) (.slice none 0 0) (some ⟨wr.heap.size, 0, none⟩) [((k % 65536 : Nat) : Int)]) := by
          have hb : ((wr.alloc (.cells #[.int .i64 (k : Int)] 3)).alloc (.cells #[.int .u8 40, .slice (some ⟨wr.heap.size, 0, none⟩) 1 1] 25)).heap[wr.heap.size]? = some (.cells #[.int .i64 (k : Int)] 3 (0, 0)) :=
            (Below.heap_alloc _ _ _ (by simp)).trans (heap_alloc_new _ _)
          refine .inr ⟨wr.heap.size, 0, rfl, ⟨_, _, hb⟩, by simp [Value.ownBlock], fun j hj => ?_⟩
          obtain rfl : j = 0 := by simp at hj; exact hj
          unfold World.cell?
          rw [hb]
          show some (Value.int .i64 (k : Int)) = some (Value.int .i64 ((k % 65536 : Nat) : Int))
          rw [show k % 65536 = k by omega]
        have HKS := Lib.hid hks
        clear hI hx2 hxr hold hbl hks
        have gm : (k : Int) % 65536 = (k : Int) := by omega
        go_wp2_with (at_builtin; go_loud (refine wpList_app etIns rfl _ _ rfl w.heap.size _ k xs rfl B2.out _ 1 [.int .u8 40, .slice (some ⟨wr.heap.size, 0, none⟩) 1 1] rfl (src_new_at etIns (wr.alloc (.cells #[.int .i64 (k : Int)] 3)) #[.int .u8 40, .slice (some ⟨wr.heap.size, 0, none⟩) 1 1] 25 1 1 (wr.heap.size + 1) (by simp) rfl (by simp [Value.oneCell'])) (by omega) (by unfold maxLen; omega) (by simp; omega) ?_); intro v8 w8 hA8)
        have HS : Hid (LInv w (litRow (k + 1)) v8 w8) := by
          show LInv _ _ _ _
          rw [litRow_succ]
          exact LInv.step (l := litRow k) 40 [((k % 65536 : Nat) : Int)] (some ⟨wr.heap.size, 0, none⟩) 1 (by rw [HKS.out]; exact B2.out) BR.out BO.out BA.out (by omega) (by simp) (by rw [HKS.out]; exact hA8)
        clear hA8 B2 BR BO BA
        go_wp2_with fail
        go_roundg (gk - 1)
        case measure => omega
        case rel => exact ⟨k + 1, by omega, by go_num, HS.out⟩
      · obtain rfl : k = N / 3 := by omega
        have g1 : decide (((N / 3 : Nat) : Int) < (N : Int) / 3) = false := by simp
        have HI := Lib.hid (show LInv w (longL (N / 3) 0) u4 wr by simpa [longL] using hI)
        clear hI hlt hk
        go_wp2_with fail
        go_loopg [4, 6] (N % 3) (fun g v i wr => ∃ k : Nat, k + g = N % 3 ∧ i = .int .i64 k ∧ LInv w (longL (N / 3) k) v wr)
        case atStart => exact ⟨0, by omega, rfl, HI.out⟩
        case round =>
          clear HI
          obtain ⟨k, hk, rfl, hI⟩ := hrel
          by_cases hlt : k < N % 3
          · have g2 : decide ((k : Int) < (N : Int) % 3) = true := by simp; omega
            obtain ⟨xs, hx2, hxr⟩ := hI.row
            have hold := hI.old
            have hks := longL_len (N / 3) k
            have HKS := Lib.hid hks
            rw [hks] at hx2
            have hsz := hold.size
            have hbl : Below wr.heap.size wr (wr.alloc (.cells #[.int .u8 65, .slice none 0 0] 25)) := (Below.refl _ _).alloc (Nat.le_refl _) _
            have B2 := Lib.hid (hx2.alloc (.cells #[.int .u8 65, .slice none 0 0] 25))
            have BR := Lib.hid (hxr.keep (v' := .slice none 0 0) fun b cs fz hh hv => ⟨hbl.block b (lt_of_get hh), hv⟩)
            have BO := Lib.hid (hold.trans (hbl.mono hsz))
            clear hI hx2 hxr hold hbl hks
            go_wp2_with (at_builtin; refine wpList_app etIns rfl _ _ rfl w.heap.size _ (N / 3 + k) xs rfl B2.out _ 1 [.int .u8 65, .slice none 0 0] rfl (src_new etIns wr #[.int .u8 65, .slice none 0 0] 25 1 1 rfl (by simp [Value.oneCell'])) (by omega) (by unfold maxLen; omega) (by simp; omega) ?_; intro v8 w8 hA8)
            have HS : Hid (LInv w (longL (N / 3) (k + 1)) v8 w8) := by
              show LInv _ _ _ _
              rw [longL_succ]
              exact LInv.step (l := longL (N / 3) k) 65 [] none 0 (by rw [HKS.out]; exact B2.out) BR.out BO.out (.inl rfl) (by omega) (by simp) (by rw [HKS.out]; exact hA8)
            clear hA8 B2 BR BO
            go_wp2_with fail
            go_roundg (gk - 1)
            case measure => omega
            case rel => exact ⟨k + 1, by omega, by go_num, HS.out⟩
          · obtain rfl : k = N % 3 := by omega
            have g2 : decide (((N % 3 : Nat) : Int) < (N : Int) % 3) = false := by simp
            obtain ⟨L, cap, hv, hX⟩ := hI.inss
            subst hv
            have HW := Lib.hid hI.old
            have HX := Lib.hid hX
            have HLL := Lib.hid (longL_len (N / 3) (N % 3))
            clear hI hX hlt hk
            have HE := Lib.hid (encode_long (N / 3) (N % 3))
            rw [show 3 * (N / 3) + N % 3 = N by omega] at HE
            have HBL := Lib.hid (long_row (N / 3) (N % 3)).2
            rw [show 3 * (N / 3) + N % 3 = N by omega] at HBL
            have HAL := Lib.hid (fun a h => all_encode (longL (N / 3) (N % 3)) (longL_ops _ _) a h)
            generalize longL (N / 3) (N % 3) = ll at *
            have hll : ll.length ≤ 65662 := by have := HLL.out; omega
            go_wp2_with fail
            refine (encode_any L ll cap (by omega) _ (ht.later HW.out) HX.out).mono ?_
            rintro e w1 ⟨rfl, hb1⟩
            have HW1 := Lib.hid (HW.out.trans (hb1.mono HW.out.size))
            clear hb1
            rw [HE.out]
            obtain ⟨i0, hi0, hz0, hz1, hz2⟩ := info_parts int_info
            obtain ⟨j0, hj0, hy0, hy1, hy2⟩ := info_parts byte_info
            by_cases ho : over ≤ 0
            · rw [if_neg (by have := HN.out; omega)]
              obtain ⟨t1, t2⟩ := tmod_neg over ho
              obtain ⟨r, hr⟩ : ∃ r : Nat, (r : Int) = 255 + over.tmod 4 := ⟨(255 + over.tmod 4).toNat, by omega⟩
              have hr2 : r ≤ 255 := by omega
              have HR := Lib.hid hr
              have hr1 : r ≤ 258 := by omega
              have hr0 : 252 ≤ r := by omega
              clear hr
              have HZ := Lib.hid (encode_zeros r)
              go_upto_region 12 with (fail)
              go_cut [9] (fun v wx => v = .int .i64 (r : Nat) ∧ w1 = wx)
              case first =>
                go_wp2_with fail
                go_meet
                exact ⟨vint (by rw [HR.out]), rfl⟩
              case rest =>
                obtain ⟨rfl, rfl⟩ := hcut
                have hw1 := HW1.out.size
                go_wp2_with (at_make; refine wpList_make_full _ rfl _ _ 23 rfl w.heap.size 3 i0 _ 1 Tryd.underlying23 hi0 hz0 hz1 .i64 .i64 _ _ (2 + 3 * r) rfl rfl (by omega) (by omega) (by rw [hz2]; omega) (by unfold maxLen; omega) hw1 ?_; intro w2 hown2 hg2; have HM2 := Lib.hid (ints_made hown2); have HB2 := Lib.hid (below_made HW1.out hw1 hg2); have hs2 := hg2.size; have hlt2 : w1.heap.size < w2.heap.size := (hown2.lt _ rfl).2; clear hown2 hg2)
                have HBZ : Hid (Below w2.heap.size w2 ((w2.alloc (.cells #[.int .u8 60, .slice (some ⟨w1.heap.size, 0, none⟩) (2 + 3 * r) (2 + 3 * r)] 25)).alloc (.cells #[.int .u8 60, .slice (some ⟨w1.heap.size, 0, none⟩) (2 + 3 * r) (2 + 3 * r)] 25))) := ((Below.refl _ _).alloc (Nat.le_refl _) _).alloc (by simp) _
                have HI2 : Hid (Inss ((w2.alloc (.cells #[.int .u8 60, .slice (some ⟨w1.heap.size, 0, none⟩) (2 + 3 * r) (2 + 3 * r)] 25)).alloc (.cells #[.int .u8 60, .slice (some ⟨w1.heap.size, 0, none⟩) (2 + 3 * r) (2 + 3 * r)] 25)) (some ⟨w2.heap.size + 1, 0, none⟩) [(60, zeros (2 + 3 * r))]) := by
                  have h := heap_alloc_new (w2.alloc (.cells #[.int .u8 60, .slice (some ⟨w1.heap.size, 0, none⟩) (2 + 3 * r) (2 + 3 * r)] 25)) (.cells #[.int .u8 60, .slice (some ⟨w1.heap.size, 0, none⟩) (2 + 3 * r) (2 + 3 * r)] 25)
                  rw [World.size_alloc] at h
                  exact inss1 (args := zeros (2 + 3 * r)) (by rw [zeros_len]; exact h) (HM2.out.later HBZ.out (Nat.le_refl _)) (by omega) (by rw [zeros_len]; omega)
                refine (encode_any _ [(60, zeros (2 + 3 * r))] 1 (by simp) _ (ht.later (HB2.out.trans (HBZ.out.mono HB2.out.size))) HI2.out).mono ?_
                rintro e w3 ⟨rfl, hb3⟩
                have HW3 := Lib.hid ((HB2.out.trans (HBZ.out.mono HB2.out.size)).trans (hb3.mono (by simp; have := HB2.out.size; omega)))
                have hw3 := HW3.out.size
                clear hb3 HI2 HBZ HB2 HM2
                rw [if_neg (by omega)] at HZ
                generalize encodeL [(60, zeros (2 + 3 * r))] = rr at *
                obtain ⟨tb, f⟩ := rr
                obtain ⟨hf0, htb⟩ := HZ.out
                simp only at hf0 htb ⊢
                subst hf0
                have HTB := Lib.hid htb
                clear htb HZ
                have HBY := Lib.hid (HAL.out (bytesOf ll) (by rw [HE.out, if_neg (by have := HN.out; omega)]))
                generalize bytesOf ll = bb at *
                have b1 : ((bb.length : Int) != (N : Int)) = false := by rw [HBL.out]; simp
                go_wp2_with (at_make; refine wpList_make_full _ rfl _ _ 50 rfl w.heap.size 5 j0 _ 1 Tryd.underlying50 hj0 hy0 hy1 .i64 .i64 _ _ N rfl rfl rfl rfl (by rw [hy2]; omega) (by unfold maxLen; omega) hw3 ?_; intro w4 hown4 hg4; have hconv := conv_own (bytes_made hown4); have HW4 := Lib.hid (below_made HW3.out hw3 hg4); clear hown4 hg4)
                refine (all_any (List.replicate N 0) (by simp; omega) _ (ht.later HW4.out)).mono ?_
                rw [all_zeros N (by omega), if_neg (by have := HN.out; omega)]
                rintro e w5 ⟨v5, v6, rfl, hI5⟩
                have HW5 := Lib.hid (HW4.out.trans (hI5.old.mono HW4.out.size))
                clear hI5 hconv
                have b2 : ((tb.length : Int) == 5 + 6 * (r : Int)) = true := by rw [HTB.out]; simp
                go_wp2_with fail
                refine (all_any bb (by rw [HBL.out]; omega) _ (ht.later HW5.out)).mono ?_
                obtain ⟨p, hp1, hp2⟩ := HBY.out
                rw [hp1]
                rintro e w6 ⟨v7, v8, rfl, hI6⟩
                obtain ⟨X, capX, rfl, _⟩ := hI6.inss
                have HW6 := Lib.hid (HW5.out.trans (hI6.old.mono HW5.out.size))
                clear hI6 hp1 hp2
                go_wp2_with fail
                refine (alive_any _ (ht.later HW6.out)).mono ?_
                rintro e w9 ⟨rfl, hb9⟩
                go_wp2_with fail
                go_ret
                exact ⟨rfl, HW6.out.trans (hb9.mono HW6.out.size)⟩
            · rw [if_pos (by have := HN.out; omega)]
              have t1 : 0 ≤ over % 4 := by omega
              have t2 : over % 4 ≤ 3 := by omega
              obtain ⟨r, hr⟩ : ∃ r : Nat, (r : Int) = 255 + over % 4 := ⟨(255 + over % 4).toNat, by omega⟩
              have HR := Lib.hid hr
              have hr1 : r ≤ 258 := by omega
              have hr0 : 252 ≤ r := by omega
              clear hr
              have HZ := Lib.hid (encode_zeros r)
              go_upto_region 12 with (fail)
              go_cut [9] (fun v wx => v = .int .i64 (r : Nat) ∧ w1 = wx)
              case first =>
                go_wp2_with fail
                go_meet
                exact ⟨vint (by rw [HR.out]), rfl⟩
              case rest =>
                obtain ⟨rfl, rfl⟩ := hcut
                have hw1 := HW1.out.size
                go_wp2_with (at_make; refine wpList_make_full _ rfl _ _ 23 rfl w.heap.size 3 i0 _ 1 Tryd.underlying23 hi0 hz0 hz1 .i64 .i64 _ _ (2 + 3 * r) rfl rfl (by omega) (by omega) (by rw [hz2]; omega) (by unfold maxLen; omega) hw1 ?_; intro w2 hown2 hg2; have HM2 := Lib.hid (ints_made hown2); have HB2 := Lib.hid (below_made HW1.out hw1 hg2); have hs2 := hg2.size; have hlt2 : w1.heap.size < w2.heap.size := (hown2.lt _ rfl).2; clear hown2 hg2)
                have HBZ : Hid (Below w2.heap.size w2 ((w2.alloc (.cells #[.int .u8 60, .slice (some ⟨w1.heap.size, 0, none⟩) (2 + 3 * r) (2 + 3 * r)] 25)).alloc (.cells #[.int .u8 60, .slice (some ⟨w1.heap.size, 0, none⟩) (2 + 3 * r) (2 + 3 * r)] 25))) := ((Below.refl _ _).alloc (Nat.le_refl _) _).alloc (by simp) _
                have HI2 : Hid (Inss ((w2.alloc (.cells #[.int .u8 60, .slice (some ⟨w1.heap.size, 0, none⟩) (2 + 3 * r) (2 + 3 * r)] 25)).alloc (.cells #[.int .u8 60, .slice (some ⟨w1.heap.size, 0, none⟩) (2 + 3 * r) (2 + 3 * r)] 25)) (some ⟨w2.heap.size + 1, 0, none⟩) [(60, zeros (2 + 3 * r))]) := by
                  have h := heap_alloc_new (w2.alloc (.cells #[.int .u8 60, .slice (some ⟨w1.heap.size, 0, none⟩) (2 + 3 * r) (2 + 3 * r)] 25)) (.cells #[.int .u8 60, .slice (some ⟨w1.heap.size, 0, none⟩) (2 + 3 * r) (2 + 3 * r)] 25)
                  rw [World.size_alloc] at h
                  exact inss1 (args := zeros (2 + 3 * r)) (by rw [zeros_len]; exact h) (HM2.out.later HBZ.out (Nat.le_refl _)) (by omega) (by rw [zeros_len]; omega)
                refine (encode_any _ [(60, zeros (2 + 3 * r))] 1 (by simp) _ (ht.later (HB2.out.trans (HBZ.out.mono HB2.out.size))) HI2.out).mono ?_
                rintro e w3 ⟨rfl, hb3⟩
                have HW3 := Lib.hid ((HB2.out.trans (HBZ.out.mono HB2.out.size)).trans (hb3.mono (by simp; have := HB2.out.size; omega)))
                have hw3 := HW3.out.size
                clear hb3 HI2 HBZ HB2 HM2
                have HF : Hid (((encodeL [(60, zeros (2 + 3 * r))]).2 = 0 ∧ over % 4 ≤ 0) ∨ ((encodeL [(60, zeros (2 + 3 * r))]).2 = 5 ∧ 0 < over % 4)) := by
                  have h := HZ.out
                  have h2 := HR.out
                  by_cases h6 : 256 ≤ r
                  · rw [if_pos h6] at h; exact .inr ⟨by rw [h], by omega⟩
                  · rw [if_neg h6] at h; exact .inl ⟨h.1, by omega⟩
                clear HZ
                generalize encodeL [(60, zeros (2 + 3 * r))] = rr at *
                obtain ⟨tb, f⟩ := rr
                simp only at HF ⊢
                rcases HF.out with ⟨hf, h4⟩ | ⟨hf, h4⟩
                all_goals
                  subst hf
                  clear HF
                  go_wp2_with (at_make; refine wpList_make_full _ rfl _ _ 50 rfl w.heap.size 5 j0 _ 1 Tryd.underlying50 hj0 hy0 hy1 .i64 .i64 _ _ N rfl rfl rfl rfl (by rw [hy2]; omega) (by unfold maxLen; omega) hw3 ?_; intro w4 hown4 hg4; have hconv := conv_own (bytes_made hown4); have HW4 := Lib.hid (below_made HW3.out hw3 hg4); clear hown4 hg4)
                  refine (all_any (List.replicate N 0) (by simp; omega) _ (ht.later HW4.out)).mono ?_
                  rw [all_zeros N (by omega), if_pos (by have := HN.out; omega)]
                  rintro e w5 ⟨v5, v6, rfl, hI5⟩
                  have HW5 := Lib.hid (HW4.out.trans (hI5.old.mono HW4.out.size))
                  clear hI5 hconv
                  go_wp2_with fail
                  refine (alive_any _ (ht.later HW5.out)).mono ?_
                  rintro e w9 ⟨rfl, hb9⟩
                  go_wp2_with fail
                  go_ret
                  exact ⟨rfl, HW5.out.trans (hb9.mono HW5.out.size)⟩
end Go.Proofs.YtgcmenjpcgdikaaDoor
