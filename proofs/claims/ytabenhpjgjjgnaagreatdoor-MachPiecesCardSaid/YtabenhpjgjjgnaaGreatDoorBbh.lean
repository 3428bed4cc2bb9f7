/- The library's sort of words, part four. The library's sort of words, part five. The library's sort of words, part six. The library's sort of words. maps. Condition: what lies in memory can lie there; what each theorem says. -/
import Derived.Test.YtabenhpjgjjgnaaGreatDoorBbg
import Derived.Test.YtabenhpjgjjgnaaGreatDoorBbb
import Derived.Test.YtabenhpjgjjgnaaGreatDoorBag
import Derived.Test.YtabenhpjgjjgnaaGreatDoorBba
import Derived.Shelf.SlSortCmp.Xorshift
import Derived.Laws.Bits64b
/- The library's sort of words, part four. -/
namespace Go.Proofs.YtabenhpjgjjgnaaGreatDoor
open Go.RowKit
set_option maxRecDepth 100000
attribute [local go_sem ↓] Go.wp_at_zero Go.wp_at_succ
set_option maxHeartbeats 8000000 in
theorem part_u (blk off n cap a b p : Nat) (W : World) (hR : RowU blk off n W) (hap : a ≤ p) (hpb : p < b) (hb : b ≤ n) (hn : n ≤ 1000000000) :
 Calls Tryz.prog 314 #[.slice (some ⟨blk, off, none⟩) n cap, .int .i64 a, .int .i64 b, .int .i64 p] W fun e w' => ∃ (m : Nat) (t : Bool), e = .returned (.tuple #[.int .i64 m, .bool t]) ∧ a ≤ m ∧ m < b ∧ Fr blk off n W w' := by
 have H0 := Lib.hid (Fr.refl hR)
 clear hR
 go_enter Tryz.func314, Tryz.ntmps314
 go_wp2_with fail
 obtain ⟨G, hc, hf⟩ := H0.out.row.fam
 rcases Nat.eq_or_lt_of_le hap with rfl | h
 all_goals
  go_region
  clear hc hf
  go_upto_block 0 with fail
  go_cut [10] (fun v wx => ∃ i : Nat, v = .int .i64 i ∧ a + 1 ≤ i ∧ i ≤ b ∧ Fr blk off n W wx)
  case first =>
   go_wp2_with fail
   go_loopw [10] (fun v wr => ∃ i : Nat, v = .int .i64 i ∧ a + 1 ≤ i ∧ i ≤ b ∧ Fr blk off n W wr) (fun v _ => b - slotN v)
   case atStart => exact ⟨a + 1, by congr 1 <;> omega, by omega, by omega, ((H0.out.set _ _).set _ _).drew1⟩
   case round =>
    obtain ⟨i, rfl, hi0, hi1, hF⟩ := hrel
    obtain ⟨G, hc, hf⟩ := hF.row.fam
    have HF := Lib.hid hF
    clear hF
    go_wp2_with fail
    by_cases hij : i < b
    ·have hI : (i : Int) ≤ (b : Int) - 1 := by omega
     go_big_quiet (first | (go_at_call 312; refine Calls.quiet_of_same (less_u _ _ _)))
     go_wp2_with fail
     ·go_roundw
      case rel => exact ⟨i + 1, by congr 1 <;> omega, by omega, by omega, HF.out.drew _⟩
      case measure => simp [slotN]; omega
     ·go_meet
      exact ⟨i, rfl, hi0, hi1, HF.out.drew _⟩
    ·have hI : decide ((i : Int) ≤ (b : Int) - 1) = false := decide_eq_false (by omega)
     go_big_quiet (first | (go_at_call 312; refine Calls.quiet_of_same (less_u _ _ _)))
     go_wp2_with fail
     go_meet
     exact ⟨i, rfl, hi0, hi1, HF.out.drew _⟩
  case rest =>
   obtain ⟨i, rfl, hi0, hi1, hF⟩ := hcut
   have HF := Lib.hid hF
   clear hF
   clear H0
   go_upto_block 2 with fail
   go_cut [11] (fun v wx => ∃ j : Nat, v = .int .i64 j ∧ a ≤ j ∧ j < b ∧ i ≤ j + 1 ∧ Fr blk off n W wx)
   case first =>
    go_wp2_with fail
    go_loopw [11] (fun v wr => ∃ j : Nat, v = .int .i64 j ∧ a ≤ j ∧ j < b ∧ i ≤ j + 1 ∧ Fr blk off n W wr) (fun v _ => slotN v)
    case atStart => exact ⟨b - 1, by congr 1 <;> omega, by omega, by omega, by omega, HF.out⟩
    case round =>
     obtain ⟨j, rfl, hj0, hj1, hj2, hF⟩ := hrel
     obtain ⟨G, hc, hf⟩ := hF.row.fam
     have HF := Lib.hid hF
     clear hF
     go_wp2_with fail
     by_cases hij : i ≤ j
     ·have hI : (i : Int) ≤ (j : Int) := by omega
      go_big_quiet (first | (go_at_call 312; refine Calls.quiet_of_same (less_u _ _ _)))
      go_wp2_with fail
      ·go_roundw
       case rel => exact ⟨j - 1, by congr 1 <;> omega, by omega, by omega, by omega, HF.out.drew _⟩
       case measure => simp [slotN]; omega
      ·go_meet
       exact ⟨j, rfl, hj0, hj1, hj2, HF.out.drew _⟩
     ·have hI : decide ((i : Int) ≤ (j : Int)) = false := decide_eq_false (by omega)
      go_big_quiet (first | (go_at_call 312; refine Calls.quiet_of_same (less_u _ _ _)))
      go_wp2_with fail
      go_meet
      exact ⟨j, rfl, hj0, hj1, hj2, HF.out.drew _⟩
   case rest =>
    obtain ⟨j, rfl, hj0, hj1, hj2, hF⟩ := hcut
    have HF := Lib.hid hF
    clear hF
    by_cases hij : j < i
    ·have hI : (j : Int) < (i : Int) := by omega
     go_wp2_with fail
     obtain ⟨G, hc, hf⟩ := HF.out.row.fam
     rcases Nat.eq_or_lt_of_le hj0 with rfl | haj
     all_goals
      go_region
      go_wp2_with fail
      (try simp only [Exit.inBlock, Exit.then])
      go_ret2
      exact ⟨_, true, rfl, by omega, by omega, ((HF.out.set _ _).set _ _).drew1⟩
    ·have hI : ¬ (j : Int) < (i : Int) := by omega
     go_wp2_with fail
     obtain ⟨G, hc, hf⟩ := HF.out.row.fam
     obtain ⟨k, hk⟩ : ∃ k, j = k + 1 := ⟨j - 1, by omega⟩
     have HKK := Lib.hid hk
     clear hk
     rcases Nat.eq_or_lt_of_le (Nat.le_of_not_lt hij) with rfl | hlt
     all_goals
      go_region
      clear hc hf
      go_wp2_with fail
      go_loopw [10, 11] (fun vi vj wr => ∃ i j : Nat, vi = .int .i64 i ∧ vj = .int .i64 j ∧ a + 1 ≤ i ∧ i ≤ b ∧ a ≤ j ∧ j < b ∧ i ≤ j + 2 ∧ Fr blk off n W wr) (fun vi vj _ => slotN vj + 2 - slotN vi)
      case atStart => have := HKK.out; exact ⟨i + 1, k, by congr 1 <;> omega, by congr 1 <;> omega, by omega, by omega, by omega, by omega, by omega, ((HF.out.set _ _).set _ _).drew1⟩
      case round =>
       clear HF
       obtain ⟨i0, j0, rfl, rfl, hi0, hi1, hj0, hj1, hj2, hF⟩ := hrel
       have HF := Lib.hid hF
       clear hF
       go_upto_block 6 with fail
       go_cut [10] (fun v wx => ∃ i : Nat, v = .int .i64 i ∧ i0 ≤ i ∧ i ≤ b ∧ (i = i0 ∨ i ≤ j0 + 1) ∧ Fr blk off n W wx)
       case first =>
        go_wp2_with fail
        go_loopw [10] (fun v wr => ∃ i : Nat, v = .int .i64 i ∧ i0 ≤ i ∧ i ≤ b ∧ (i = i0 ∨ i ≤ j0 + 1) ∧ Fr blk off n W wr) (fun v _ => b - slotN v)
        case atStart => exact ⟨i0, rfl, Nat.le_refl _, hi1, .inl rfl, HF.out⟩
        case round =>
         obtain ⟨i, rfl, hk0, hk1, hk2, hF⟩ := hrel
         obtain ⟨G, hc, hf⟩ := hF.row.fam
         have HF := Lib.hid hF
         clear hF
         go_wp2_with fail
         by_cases hij : i ≤ j0
         ·have hI : (i : Int) ≤ (j0 : Int) := by omega
          go_big_quiet (first | (go_at_call 312; refine Calls.quiet_of_same (less_u _ _ _)))
          go_wp2_with fail
          ·go_roundw
           case rel => exact ⟨i + 1, by congr 1 <;> omega, by omega, by omega, .inr (by omega), HF.out.drew _⟩
           case measure => simp [slotN]; omega
          ·go_meet
           exact ⟨i, rfl, hk0, hk1, hk2, HF.out.drew _⟩
         ·have hI : decide ((i : Int) ≤ (j0 : Int)) = false := decide_eq_false (by omega)
          go_big_quiet (first | (go_at_call 312; refine Calls.quiet_of_same (less_u _ _ _)))
          go_wp2_with fail
          go_meet
          exact ⟨i, rfl, hk0, hk1, hk2, HF.out.drew _⟩
       case rest =>
        obtain ⟨i, rfl, hk0, hk1, hk2, hF⟩ := hcut
        have HF := Lib.hid hF
        clear hF
        go_upto_block 8 with fail
        go_cut [11] (fun v wx => ∃ j : Nat, v = .int .i64 j ∧ a ≤ j ∧ j ≤ j0 ∧ (j = j0 ∨ i ≤ j + 1) ∧ Fr blk off n W wx)
        case first =>
         go_wp2_with fail
         go_loopw [11] (fun v wr => ∃ j : Nat, v = .int .i64 j ∧ a ≤ j ∧ j ≤ j0 ∧ (j = j0 ∨ i ≤ j + 1) ∧ Fr blk off n W wr) (fun v _ => slotN v)
         case atStart => exact ⟨j0, rfl, hj0, Nat.le_refl _, .inl rfl, HF.out⟩
         case round =>
          obtain ⟨j, rfl, hl0, hl1, hl2, hF⟩ := hrel
          obtain ⟨G, hc, hf⟩ := hF.row.fam
          have HF := Lib.hid hF
          clear hF
          go_wp2_with fail
          by_cases hij : i ≤ j
          ·have hI : (i : Int) ≤ (j : Int) := by omega
           go_big_quiet (first | (go_at_call 312; refine Calls.quiet_of_same (less_u _ _ _)))
           go_wp2_with fail
           ·go_roundw
            case rel => exact ⟨j - 1, by congr 1 <;> omega, by omega, by omega, .inr (by omega), HF.out.drew _⟩
            case measure => simp [slotN]; omega
           ·go_meet
            exact ⟨j, rfl, hl0, hl1, hl2, HF.out.drew _⟩
          ·have hI : decide ((i : Int) ≤ (j : Int)) = false := decide_eq_false (by omega)
           go_big_quiet (first | (go_at_call 312; refine Calls.quiet_of_same (less_u _ _ _)))
           go_wp2_with fail
           go_meet
           exact ⟨j, rfl, hl0, hl1, hl2, HF.out.drew _⟩
        case rest =>
         obtain ⟨j, rfl, hl0, hl1, hl2, hF⟩ := hcut
         have HF := Lib.hid hF
         clear hF
         by_cases hij : j < i
         ·have hI : (j : Int) < (i : Int) := by omega
          go_wp2_with fail
          obtain ⟨G, hc, hf⟩ := HF.out.row.fam
          rcases Nat.eq_or_lt_of_le hl0 with rfl | haj
          all_goals
           go_region
           go_wp2_with fail
           (try simp only [Exit.inBlock, Exit.then])
           go_ret2
           exact ⟨_, false, rfl, by omega, by omega, ((HF.out.set _ _).set _ _).drew1⟩
         ·have hI : ¬ (j : Int) < (i : Int) := by omega
          go_wp2_with fail
          obtain ⟨G, hc, hf⟩ := HF.out.row.fam
          rcases Nat.eq_or_lt_of_le (Nat.le_of_not_lt hij) with e | hlt
          ·subst e
           go_region
           clear hc hf
           go_wp2_with fail
           go_roundw
           case rel => exact ⟨i + 1, i - 1, by congr 1 <;> omega, by congr 1 <;> omega, by omega, by omega, by omega, by omega, by omega, ((HF.out.set _ _).set _ _).drew1⟩
           case measure => simp [slotN]; omega
          ·go_region
           clear hc hf
           go_wp2_with fail
           go_roundw
           case rel => exact ⟨i + 1, j - 1, by congr 1 <;> omega, by congr 1 <;> omega, by omega, by omega, by omega, by omega, by omega, ((HF.out.set _ _).set _ _).drew1⟩
           case measure => simp [slotN]; omega
set_option maxHeartbeats 8000000 in
theorem parteq_u (blk off n cap a b p : Nat) (W : World) (hR : RowU blk off n W) (hap : a ≤ p) (hpb : p < b) (hb : b ≤ n) (hn : n ≤ 1000000000) :
 Calls Tryz.prog 313 #[.slice (some ⟨blk, off, none⟩) n cap, .int .i64 a, .int .i64 b, .int .i64 p] W fun e w' => ∃ m : Nat, e = .returned (.int .i64 m) ∧ a + 1 ≤ m ∧ m ≤ b ∧ Fr blk off n W w' := by
 have H0 := Lib.hid (Fr.refl hR)
 clear hR
 go_enter Tryz.func313, Tryz.ntmps313
 go_wp2_with fail
 obtain ⟨G, hc, hf⟩ := H0.out.row.fam
 obtain ⟨k, hk⟩ : ∃ k, b = k + 1 := ⟨b - 1, by omega⟩
 have HKK := Lib.hid hk
 clear hk
 rcases Nat.eq_or_lt_of_le hap with rfl | h
 all_goals
  go_region
  clear hc hf
  go_wp2_with fail
  go_loopw [9, 10] (fun vi vj wr => ∃ i j : Nat, vi = .int .i64 i ∧ vj = .int .i64 j ∧ a + 1 ≤ i ∧ i ≤ b ∧ a ≤ j ∧ j < b ∧ i ≤ j + 2 ∧ Fr blk off n W wr) (fun vi vj _ => slotN vj + 2 - slotN vi)
  case atStart => have := HKK.out; exact ⟨a + 1, k, by congr 1 <;> omega, by congr 1 <;> omega, by omega, by omega, by omega, by omega, by omega, ((H0.out.set _ _).set _ _).drew1⟩
  case round =>
   clear H0
   obtain ⟨i0, j0, rfl, rfl, hi0, hi1, hj0, hj1, hj2, hF⟩ := hrel
   have HF := Lib.hid hF
   clear hF
   go_upto_block 2 with fail
   go_cut [9] (fun v wx => ∃ i : Nat, v = .int .i64 i ∧ i0 ≤ i ∧ i ≤ b ∧ (i = i0 ∨ i ≤ j0 + 1) ∧ Fr blk off n W wx)
   case first =>
    go_wp2_with fail
    go_loopw [9] (fun v wr => ∃ i : Nat, v = .int .i64 i ∧ i0 ≤ i ∧ i ≤ b ∧ (i = i0 ∨ i ≤ j0 + 1) ∧ Fr blk off n W wr) (fun v _ => b - slotN v)
    case atStart => exact ⟨i0, rfl, Nat.le_refl _, hi1, .inl rfl, HF.out⟩
    case round =>
     obtain ⟨i, rfl, hk0, hk1, hk2, hF⟩ := hrel
     obtain ⟨G, hc, hf⟩ := hF.row.fam
     have HF := Lib.hid hF
     clear hF
     go_wp2_with fail
     by_cases hij : i ≤ j0
     ·have hI : (i : Int) ≤ (j0 : Int) := by omega
      go_big_quiet (first | (go_at_call 312; refine Calls.quiet_of_same (less_u _ _ _)))
      go_wp2_with fail
      ·go_roundw
       case rel => exact ⟨i + 1, by congr 1 <;> omega, by omega, by omega, .inr (by omega), HF.out.drew _⟩
       case measure => simp [slotN]; omega
      ·go_meet
       exact ⟨i, rfl, hk0, hk1, hk2, HF.out.drew _⟩
     ·have hI : decide ((i : Int) ≤ (j0 : Int)) = false := decide_eq_false (by omega)
      go_big_quiet (first | (go_at_call 312; refine Calls.quiet_of_same (less_u _ _ _)))
      go_wp2_with fail
      go_meet
      exact ⟨i, rfl, hk0, hk1, hk2, HF.out.drew _⟩
   case rest =>
    obtain ⟨i, rfl, hk0, hk1, hk2, hF⟩ := hcut
    have HF := Lib.hid hF
    clear hF
    go_upto_block 4 with fail
    go_cut [10] (fun v wx => ∃ j : Nat, v = .int .i64 j ∧ a ≤ j ∧ j ≤ j0 ∧ (j = j0 ∨ i ≤ j + 1) ∧ Fr blk off n W wx)
    case first =>
     go_wp2_with fail
     go_loopw [10] (fun v wr => ∃ j : Nat, v = .int .i64 j ∧ a ≤ j ∧ j ≤ j0 ∧ (j = j0 ∨ i ≤ j + 1) ∧ Fr blk off n W wr) (fun v _ => slotN v)
     case atStart => exact ⟨j0, rfl, hj0, Nat.le_refl _, .inl rfl, HF.out⟩
     case round =>
      obtain ⟨j, rfl, hl0, hl1, hl2, hF⟩ := hrel
      obtain ⟨G, hc, hf⟩ := hF.row.fam
      have HF := Lib.hid hF
      clear hF
      go_wp2_with fail
      by_cases hij : i ≤ j
      ·have hI : (i : Int) ≤ (j : Int) := by omega
       go_big_quiet (first | (go_at_call 312; refine Calls.quiet_of_same (less_u _ _ _)))
       go_wp2_with fail
       ·go_roundw
        case rel => exact ⟨j - 1, by congr 1 <;> omega, by omega, by omega, .inr (by omega), HF.out.drew _⟩
        case measure => simp [slotN]; omega
       ·go_meet
        exact ⟨j, rfl, hl0, hl1, hl2, HF.out.drew _⟩
      ·have hI : decide ((i : Int) ≤ (j : Int)) = false := decide_eq_false (by omega)
       go_big_quiet (first | (go_at_call 312; refine Calls.quiet_of_same (less_u _ _ _)))
       go_wp2_with fail
       go_meet
       exact ⟨j, rfl, hl0, hl1, hl2, HF.out.drew _⟩
    case rest =>
     obtain ⟨j, rfl, hl0, hl1, hl2, hF⟩ := hcut
     have HF := Lib.hid hF
     clear hF
     by_cases hij : j < i
     ·have hI : (j : Int) < (i : Int) := by omega
      go_wp2_with fail
      go_ret
      exact ⟨_, rfl, by omega, by omega, HF.out⟩
     ·have hI : ¬ (j : Int) < (i : Int) := by omega
      go_wp2_with fail
      obtain ⟨G, hc, hf⟩ := HF.out.row.fam
      rcases Nat.eq_or_lt_of_le (Nat.le_of_not_lt hij) with e | hlt
      ·subst e
       go_region
       clear hc hf
       go_wp2_with fail
       go_roundw
       case rel => exact ⟨i + 1, i - 1, by congr 1 <;> omega, by congr 1 <;> omega, by omega, by omega, by omega, by omega, by omega, ((HF.out.set _ _).set _ _).drew1⟩
       case measure => simp [slotN]; omega
      ·go_region
       clear hc hf
       go_wp2_with fail
       go_roundw
       case rel => exact ⟨i + 1, j - 1, by congr 1 <;> omega, by congr 1 <;> omega, by omega, by omega, by omega, by omega, by omega, ((HF.out.set _ _).set _ _).drew1⟩
       case measure => simp [slotN]; omega
end Go.Proofs.YtabenhpjgjjgnaaGreatDoor
/- The library's sort of words, part five. -/
namespace Go.Proofs.YtabenhpjgjjgnaaGreatDoor
open Go.RowKit Go.Shelf
set_option maxRecDepth 100000
attribute [local go_sem ↓] Go.wp_at_zero Go.wp_at_succ
theorem Only.setNew {bs : List Nat} {W W' : World} {r : Nat} (h : Only bs W W') (hr : W.heap.size ≤ r) (i : Nat) (v : Value) : Only bs W (W'.setCell ⟨r, i, none⟩ v) := by
 refine ⟨h.os, h.tape, h.output, by have := h.size; rw [mask_size, mask_size, setCell_size]; exact this, fun k hk => ?_⟩
 by_cases hb : k ∈ bs
 ·rw [mask_in _ _ hb (by rw [setCell_size]; exact Nat.lt_of_lt_of_le hk h.size), mask_in _ _ hb hk]
 ·rw [mask_at _ _ hb, mask_at _ _ hb, Below.heap_setCell W' ⟨r, i, none⟩ v k (show k ≠ r by omega)]
  exact h.block hk hb
theorem RowU.far {blk off n : Nat} {W : World} (h : RowU blk off n W) {r : Nat} (hr : blk ≠ r) (i : Nat) (v : Value) : RowU blk off n (W.setCell ⟨r, i, none⟩ v) := by
 obtain ⟨cs, T, hx, hc⟩ := h
 exact ⟨cs, T, hx.far hr v, hc⟩
theorem next_u (b1 X : Nat) (hX : X < 18446744073709551616) (w : World) (hc : w.cell? ⟨b1, 0, none⟩ = some (.int .u64 X)) (hf : w.frozen? ⟨b1, 0, none⟩ = false) :
 Calls Tryz.prog 330 #[.pointer (some ⟨b1, 0, none⟩)] w fun e w' => ∃ Y : Nat, Y < 18446744073709551616 ∧ e = .returned (.int .u64 Y) ∧ w' = (w.setCell ⟨b1, 0, none⟩ (.int .u64 Y)).drewN 3 := by
 have h := AnyF.xorshift_Next { Tryz.sortB with } b1 0 X hX w hc hf
 change Calls Tryz.prog 330 _ _ _ at h
 exact h.mono fun _ _ ⟨he, hw⟩ => ⟨_, Go.Sort.xorNextN_lt X hX, he, hw⟩
theorem npow_u (n : Nat) (h8 : 8 ≤ n) (hn : n ≤ 1000000000) (w : World) : Calls Tryz.prog 329 #[.int .i64 n] w fun e w' => ∃ M : Nat, 1 ≤ M ∧ M ≤ 2 * n ∧ e = .returned (.int .u64 M) ∧ w' = w := by
 have h := AnyF.nextPowerOfTwo { Tryz.sortB with } n (by omega) w
 change Calls Tryz.prog 329 _ _ _ at h
 exact h.mono fun _ _ ⟨he, hw⟩ => ⟨_, by rw [Nat.one_shiftLeft]; exact Nat.two_pow_pos _, by rw [Nat.one_shiftLeft]; exact Go.Sort.two_pow_bitsLen_le (by omega), he, hw⟩
theorem bx_two {k blk i j : Nat} {cs : Array Value} {T : TypeId} {w : World} {x y : Value} (h : Bx k cs T w) (hne : blk ≠ k) : Bx k cs T ((w.setCell ⟨blk, i, none⟩ x).setCell ⟨blk, j, none⟩ y).drew :=
 Bx.grow ((h.far (a := ⟨blk, i, none⟩) hne.symm x).far (a := ⟨blk, j, none⟩) hne.symm y) ⟨rfl, rfl, rfl, Nat.le_refl _, fun _ _ => rfl⟩
set_option maxHeartbeats 4000000 in
theorem break_u (blk off n cap a b : Nat) (W : World) (hR : RowU blk off n W) (hab : a + 8 ≤ b) (hb : b ≤ n) (hn : n ≤ 1000000000) :
 Calls Tryz.prog 308 #[.slice (some ⟨blk, off, none⟩) n cap, .int .i64 a, .int .i64 b] W fun e w' => e = .returned (.tuple #[]) ∧ Fr blk off n W w' := by
 have H0 := Lib.hid (Fr.refl hR)
 obtain ⟨l, h1, h2⟩ : ∃ l, a + l ≤ b ∧ b ≤ a + l := ⟨b - a, by omega, by omega⟩
 have eh : (b : Int) - (a : Int) = (l : Int) := by omega
 have h8 : (8 : Int) ≤ (l : Int) := by omega
 have hne : blk ≠ W.heap.size := Nat.ne_of_lt hR.lt
 have HNP := Lib.hid (fun w => npow_u l (by omega) (by omega) w)
 clear hR
 go_enter Tryz.func308, Tryz.ntmps308
 go_wp2_with fail
 refine (HNP.out _).mono ?_
 rintro e w1 ⟨M, hM1, hM2, rfl, rfl⟩
 have HX := Lib.hid (Bx.new W #[.int .u64 l] 306)
 have HF := Lib.hid (H0.out.grow (alloc_below W (.cells #[.int .u64 l] 306)))
 clear H0 HNP
 generalize W.alloc (.cells #[.int .u64 l] 306) = w2 at *
 go_wp2_with fail
 go_loopw [9] (fun v wr => ∃ (i X : Nat), v = .int .i64 i ∧ a + l / 4 * 2 ≤ i + 1 ∧ i ≤ a + l / 4 * 2 + 2 ∧ X < 18446744073709551616 ∧ Fr blk off n W wr ∧ Bx W.heap.size #[.int .u64 X] 306 wr) (fun v _ => a + l / 4 * 2 + 2 - slotN v)
 case atStart => exact ⟨a + l / 4 * 2 - 1, l, by congr 1 <;> omega, by omega, by omega, by omega, HF.out, HX.out⟩
 case round =>
  obtain ⟨i, X, rfl, hi0, hi1, hX, hF, hx⟩ := hrel
  have HF2 := Lib.hid hF
  have HX2 := Lib.hid hx
  clear hF hx HF HX
  by_cases hlt : i ≤ a + l / 4 * 2 + 1
  ·have hI : (i : Int) ≤ (a : Int) + (l : Int) / 4 * 2 + 1 := by omega
   have HN := Lib.hid (next_u W.heap.size X hX wr ((HX2.out.cell 0).trans rfl) (HX2.out.frozen 0))
   go_wp2_with fail
   refine HN.out.mono ?_
   rintro e w3 ⟨Y, hY, rfl, hw3⟩
   have HF3 := Lib.hid (show Fr blk off n W w3 by rw [hw3]; exact Fr.drew ⟨HF2.out.only.setNew (Nat.le_refl _) 0 _, HF2.out.row.far hne 0 _⟩ 3)
   have HX3 := Lib.hid (show Bx W.heap.size #[.int .u64 Y] 306 w3 by rw [hw3]; exact HX2.out.set 0 (.int .u64 Y))
   clear HN HF2 HX2 hw3
   obtain ⟨O, hO⟩ : ∃ O : Nat, O = Y &&& (M - 1) := ⟨_, rfl⟩
   have lO : O ≤ M - 1 := by rw [hO]; exact Nat.and_le_right
   have eAnd : bits .and .u64 (Y : Int) ((M : Int) - 1) = (O : Int) := by
    rw [show ((M : Int) - 1) = ((M - 1 : Nat) : Int) by omega, bits_and_u64_nat _ _ hY (by omega), hO]
   clear hO
   rcases Nat.lt_or_ge O l with hol | hol
   ·go_wp2_with fail
    obtain ⟨G, hc, hf⟩ := HF3.out.row.fam
    rcases Nat.lt_trichotomy i (a + O) with q | rfl | q
    all_goals
     go_region
     clear hc hf
     go_wp2_with fail
     go_roundw
     case rel =>
      first
       | exact ⟨i + 1, Y, by congr 1 <;> omega, by omega, by omega, hY, ((HF3.out.set _ _).set _ _).drew1, bx_two HX3.out hne⟩
       | exact ⟨a + O + 1, Y, by congr 1 <;> omega, by omega, by omega, hY, ((HF3.out.set _ _).set _ _).drew1, bx_two HX3.out hne⟩
     case measure => simp [slotN]; omega
   ·obtain ⟨o, ho0, ho1⟩ : ∃ o, O ≤ l + o ∧ l + o ≤ O := ⟨O - l, by omega, by omega⟩
    have eo : (O : Int) - (l : Int) = (o : Int) := by omega
    go_wp2_with fail
    obtain ⟨G, hc, hf⟩ := HF3.out.row.fam
    rcases Nat.lt_trichotomy i (a + o) with q | rfl | q
    all_goals
     go_region
     clear hc hf
     go_wp2_with fail
     go_roundw
     case rel =>
      first
       | exact ⟨i + 1, Y, by congr 1 <;> omega, by omega, by omega, hY, ((HF3.out.set _ _).set _ _).drew1, bx_two HX3.out hne⟩
       | exact ⟨a + o + 1, Y, by congr 1 <;> omega, by omega, by omega, hY, ((HF3.out.set _ _).set _ _).drew1, bx_two HX3.out hne⟩
     case measure => simp [slotN]; omega
  ·have hI : ¬ (i : Int) ≤ (a : Int) + (l : Int) / 4 * 2 + 1 := by omega
   go_wp2_with fail
   go_end0
   exact ⟨rfl, HF2.out⟩
end Go.Proofs.YtabenhpjgjjgnaaGreatDoor
/- The library's sort of words, part six. -/
namespace Go.Proofs.YtabenhpjgjjgnaaGreatDoor
open Go.RowKit
set_option maxRecDepth 100000
attribute [local go_sem ↓] Go.wp_at_zero Go.wp_at_succ
def BoolE (e : Ending) : Prop := ∃ t : Bool, e = .returned (.bool t)
set_option maxHeartbeats 8000000 in
theorem partial_u (blk off n cap a b : Nat) (W : World) (hR : RowU blk off n W) (hab : a + 8 ≤ b) (hb : b ≤ n) (hn : n ≤ 1000000000) :
 Calls Tryz.prog 311 #[.slice (some ⟨blk, off, none⟩) n cap, .int .i64 a, .int .i64 b] W fun e w' => BoolE e ∧ Fr blk off n W w' := by
 have H0 := Lib.hid (Fr.refl hR)
 clear hR
 go_enter Tryz.func311, Tryz.ntmps311
 go_wp2_with fail
 go_loopw [7, 8] (fun vi vj wr => ∃ i j : Nat, vi = .int .i64 i ∧ vj = .int .i64 j ∧ a + 1 ≤ i ∧ i ≤ b ∧ j ≤ 5 ∧ Fr blk off n W wr) (fun _ vj _ => 5 - slotN vj)
 case atStart => exact ⟨a + 1, 0, by congr 1 <;> omega, rfl, by omega, by omega, by omega, H0.out⟩
 case round =>
  clear H0
  obtain ⟨i0, k, rfl, rfl, hi0, hi1, hk, hF⟩ := hrel
  have HF := Lib.hid hF
  clear hF
  by_cases hk5 : k < 5
  ·have hI : (k : Int) < 5 := by omega
   go_upto_block 2 with fail
   go_cut [7] (fun v wx => ∃ i : Nat, v = .int .i64 i ∧ i0 ≤ i ∧ i ≤ b ∧ Fr blk off n W wx)
   case first =>
    go_wp2_with fail
    go_loopw [7] (fun v wr => ∃ i : Nat, v = .int .i64 i ∧ i0 ≤ i ∧ i ≤ b ∧ Fr blk off n W wr) (fun v _ => b - slotN v)
    case atStart => exact ⟨i0, rfl, Nat.le_refl _, hi1, HF.out⟩
    case round =>
     obtain ⟨i, rfl, h0, h1, hF⟩ := hrel
     obtain ⟨G, hc, hf⟩ := hF.row.fam
     have HF := Lib.hid hF
     clear hF
     go_wp2_with fail
     by_cases hij : i < b
     ·have hI : (i : Int) < (b : Int) := by omega
      go_big_quiet (first | (go_at_call 312; refine Calls.quiet_of_same (less_u _ _ _)))
      go_wp2_with fail
      ·go_roundw
       case rel => exact ⟨i + 1, by congr 1 <;> omega, by omega, by omega, HF.out.drew _⟩
       case measure => simp [slotN]; omega
      ·go_meet
       exact ⟨i, rfl, h0, h1, HF.out.drew _⟩
     ·have hI : decide ((i : Int) < (b : Int)) = false := decide_eq_false (by omega)
      go_big_quiet (first | (go_at_call 312; refine Calls.quiet_of_same (less_u _ _ _)))
      go_wp2_with fail
      go_meet
      exact ⟨i, rfl, h0, h1, HF.out.drew _⟩
   case rest =>
    obtain ⟨i, rfl, h0, h1, hF⟩ := hcut
    have HF := Lib.hid hF
    clear hF
    by_cases hib : i = b
    ·subst hib
     go_wp2_with fail
     go_ret
     exact ⟨⟨true, rfl⟩, HF.out⟩
    ·have hI2 : ¬ (i : Int) = (b : Int) := by omega
     by_cases h50 : b < a + 50
     ·have hI3 : (b : Int) - (a : Int) < 50 := by omega
      go_wp2_with fail
      go_ret
      exact ⟨⟨false, rfl⟩, HF.out⟩
     ·have hI3 : ¬ (b : Int) - (a : Int) < 50 := by omega
      obtain ⟨G, hc, hf⟩ := HF.out.row.fam
      go_wp2_with fail
      go_region
      clear hc hf
      have HF3 := Lib.hid ((HF.out.set i (G (i - 1))).set (i - 1) (G i)).drew1
      clear HF
      go_upto_if 61 with fail
      go_cut [] (fun wx => Fr blk off n W wx)
      case first =>
       by_cases h2 : a + 2 ≤ i
       ·have hI4 : (2 : Int) ≤ (i : Int) - (a : Int) := by omega
        go_wp2_with fail
        go_loopw [9] (fun v wr => ∃ j : Nat, v = .int .i64 j ∧ (j < i) ∧ Fr blk off n W wr) (fun v _ => slotN v)
        case atStart => exact ⟨i - 1, by congr 1 <;> omega, by omega, HF3.out⟩
        case round =>
         obtain ⟨j, rfl, hj, hF⟩ := hrel
         obtain ⟨G, hc, hf⟩ := hF.row.fam
         have HF := Lib.hid hF
         clear hF
         by_cases hjt : 1 ≤ j
         ·have hI5 : (1 : Int) ≤ (j : Int) := by omega
          go_wp2_with fail
          go_big_quiet (first | (go_at_call 312; refine Calls.quiet_of_same (less_u _ _ _)))
          go_wp2_with fail
          ·go_meet
           exact HF.out.drew _
          ·have hF2 := HF.out.drew nq
           obtain ⟨G2, hc2, hf2⟩ := hF2.row.fam
           have HF2 := Lib.hid hF2
           clear hF2 hc hf HF
           generalize wr.drewN nq = wr2 at *
           go_region
           all_goals go_wp2_with fail
           go_roundw
           case rel => exact ⟨j - 1, by congr 1 <;> omega, by omega, ((HF2.out.drew _).set _ _).set _ _⟩
           case measure => simp [slotN]; omega
         ·have hI5 : ¬ (1 : Int) ≤ (j : Int) := by omega
          go_wp2_with fail
          go_meet
          exact HF.out
       ·have hI4 : ¬ (2 : Int) ≤ (i : Int) - (a : Int) := by omega
        go_wp2_with fail
        go_meet
        exact HF3.out
      case rest =>
       have HF := Lib.hid hcut
       clear hcut HF3
       by_cases h2 : i + 2 ≤ b
       ·have hI4 : (2 : Int) ≤ (b : Int) - (i : Int) := by omega
        go_wp2_with fail
        go_loopw [10] (fun v wr => ∃ j : Nat, v = .int .i64 j ∧ (i < j ∧ j ≤ b) ∧ Fr blk off n W wr) (fun v _ => b - slotN v)
        case atStart => exact ⟨i + 1, by congr 1 <;> omega, by omega, HF.out⟩
        case round =>
         obtain ⟨j, rfl, hj, hF⟩ := hrel
         obtain ⟨G, hc, hf⟩ := hF.row.fam
         have HF := Lib.hid hF
         clear hF
         by_cases hjt : j < b
         ·have hI5 : (j : Int) < (b : Int) := by omega
          go_wp2_with fail
          go_big_quiet (first | (go_at_call 312; refine Calls.quiet_of_same (less_u _ _ _)))
          go_wp2_with fail
          ·go_roundw
           case rel => exact ⟨i, k + 1, rfl, by congr 1 <;> omega, by omega, by omega, by omega, HF.out.drew _⟩
           case measure => simp [slotN]; omega
          ·have hF2 := HF.out.drew nq
           obtain ⟨G2, hc2, hf2⟩ := hF2.row.fam
           have HF2 := Lib.hid hF2
           clear hF2 hc hf HF
           generalize wr.drewN nq = wr2 at *
           go_region
           all_goals go_wp2_with fail
           go_roundw
           case rel => exact ⟨j + 1, by congr 1 <;> omega, by omega, ((HF2.out.drew _).set _ _).set _ _⟩
           case measure => simp [slotN]; omega
         ·have hI5 : ¬ (j : Int) < (b : Int) := by omega
          go_wp2_with fail
          go_roundw
          case rel => exact ⟨i, k + 1, rfl, by congr 1 <;> omega, by omega, by omega, by omega, HF.out⟩
          case measure => simp [slotN]; omega
       ·have hI4 : ¬ (2 : Int) ≤ (b : Int) - (i : Int) := by omega
        go_wp2_with fail
        go_roundw
        case rel => exact ⟨i, k + 1, rfl, by congr 1 <;> omega, by omega, by omega, by omega, HF.out⟩
        case measure => simp [slotN]; omega
  ·have hI : ¬ (k : Int) < 5 := by omega
   go_wp2_with fail
   go_ret
   exact ⟨⟨false, rfl⟩, HF.out⟩
end Go.Proofs.YtabenhpjgjjgnaaGreatDoor
/- The library's sort of words. -/
namespace Go.Proofs.YtabenhpjgjjgnaaGreatDoor
open Go.RowKit
set_option maxRecDepth 100000
attribute [local go_sem ↓] Go.wp_at_zero Go.wp_at_succ
def BoolV (v : Value) : Prop := ∃ t : Bool, v = .bool t
set_option maxHeartbeats 16000000 in
theorem pdq_step (blk off n cap : Nat) (hn : n ≤ 1000000000) (m : Nat)
 (ih : ∀ (a b limit : Nat) (W : World), b - a < m → a ≤ b → b ≤ n → limit ≤ 1000 → RowU blk off n W → Calls Tryz.prog 248 #[.slice (some ⟨blk, off, none⟩) n cap, .int .i64 a, .int .i64 b, .int .i64 limit] W fun e w' => e = .returned (.tuple #[]) ∧ Fr blk off n W w')
 (a b limit : Nat) (W : World) (hm : b - a < m + 1) (hab : a ≤ b) (hb : b ≤ n) (hlim : limit ≤ 1000) (hR : RowU blk off n W) :
 Calls Tryz.prog 248 #[.slice (some ⟨blk, off, none⟩) n cap, .int .i64 a, .int .i64 b, .int .i64 limit] W fun e w' => e = .returned (.tuple #[]) ∧ Fr blk off n W w' := by
 have IH := Lib.hid ih
 clear ih
 have H0 := Lib.hid (Fr.refl hR)
 clear hR
 go_enter Tryz.func248, Tryz.ntmps248
 go_wp2_with fail
 go_loopw [1, 2, 3, 8, 9] (fun s1 s2 s3 s8 s9 wr => ∃ a' b' lim : Nat, s1 = .int .i64 a' ∧ s2 = .int .i64 b' ∧ s3 = .int .i64 lim ∧ BoolV s8 ∧ BoolV s9 ∧ a' ≤ b' ∧ b' ≤ n ∧ b' - a' ≤ b - a ∧ lim ≤ 1000 ∧ Fr blk off n W wr) (fun s1 s2 _ _ _ _ => slotN s2 - slotN s1)
 case atStart => exact ⟨a, b, limit, rfl, rfl, rfl, ⟨true, rfl⟩, ⟨true, rfl⟩, hab, hb, Nat.le_refl _, hlim, H0.out⟩
 case round =>
  clear H0 hab hb hlim
  obtain ⟨a', b', lim, rfl, rfl, rfl, ⟨wb, rfl⟩, ⟨wp, rfl⟩, hab, hb, hle, hlim, hF⟩ := hrel
  have HF := Lib.hid hF
  clear hF
  obtain ⟨l, l1, l2⟩ : ∃ l, a' + l ≤ b' ∧ b' ≤ a' + l := ⟨b' - a', by omega, by omega⟩
  have eh : (b' : Int) - (a' : Int) = (l : Int) := by omega
  by_cases h12 : l ≤ 12
  ·have hI : (l : Int) ≤ 12 := by omega
   have HC := Lib.hid (ins_u blk off n cap a' b' wr HF.out.row hab hb (by omega))
   go_wp2_with fail
   refine HC.out.mono ?_
   rintro e w1 ⟨rfl, hF1⟩
   have HF1 := Lib.hid (HF.out.trans hF1)
   clear HC hF1
   go_wp2_with fail
   (try simp only [Exit.inBlock, Exit.then]); refine bodyPost_ret (results_none rfl _ _ _) rfl ?_
   exact ⟨rfl, HF1.out⟩
  ·have hI : ¬ (l : Int) ≤ 12 := by omega
   by_cases hl0 : lim = 0
   ·subst hl0
    have HC := Lib.hid (heap_u blk off n cap a' b' wr HF.out.row (by omega) hb hn)
    go_wp2_with fail
    refine HC.out.mono ?_
    rintro e w1 ⟨rfl, hF1⟩
    have HF1 := Lib.hid (HF.out.trans hF1)
    clear HC hF1
    go_wp2_with fail
    (try simp only [Exit.inBlock, Exit.then]); refine bodyPost_ret (results_none rfl _ _ _) rfl ?_
    exact ⟨rfl, HF1.out⟩
   ·have hl0z : ¬ (lim : Int) = 0 := by omega
    go_upto_if 35 with fail
    go_cut [3] (fun v wx => ∃ k : Nat, v = .int .i64 k ∧ k ≤ 1000 ∧ Fr blk off n W wx)
    case first =>
     cases wb
     ·have HC := Lib.hid (break_u blk off n cap a' b' wr HF.out.row (by omega) hb hn)
      go_wp2_with fail
      refine HC.out.mono ?_
      rintro e w1 ⟨rfl, hF1⟩
      have HF1 := Lib.hid (HF.out.trans hF1)
      clear HC hF1
      go_wp2_with fail
      go_meet
      exact ⟨lim - 1, by congr 1 <;> omega, by omega, HF1.out⟩
     ·go_wp2_with fail
      go_meet
      exact ⟨lim, rfl, hlim, HF.out⟩
    case rest =>
     obtain ⟨lim2, rfl, hlim2, hF⟩ := hcut
     have HF := Lib.hid hF
     clear hF hlim hl0 hl0z
     have HC := Lib.hid (pivot_u blk off n cap a' b' wc HF.out.row (by omega) hb hn)
     go_wp2_with fail
     refine HC.out.mono ?_
     rintro e w1 ⟨p, h, rfl, hp, hb1⟩
     have HF1 := Lib.hid (HF.out.trans ⟨Only.of_below hb1, HF.out.row.grow hb1⟩)
     clear HC hb1 HF
     go_upto_if 50 with fail
     go_cut [11, 12] (fun x y wx => ∃ p h : Nat, x = .int .i64 p ∧ y = .int .i64 h ∧ (a' ≤ p ∧ p < b') ∧ Fr blk off n W wx)
     case first =>
      by_cases hh : h = 2
      ·subst hh
       have HC := Lib.hid (rev_u blk off n cap a' b' w1 HF1.out.row (by omega) hb hn)
       go_wp2_with fail
       refine HC.out.mono ?_
       rintro e w2 ⟨rfl, hF2⟩
       have HF2 := Lib.hid (HF1.out.trans hF2)
       clear HC hF2
       go_wp2_with fail
       go_meet
       exact ⟨b' - 1 - (p - a'), 1, by congr 1 <;> omega, rfl, by omega, HF2.out⟩
      ·have hhI : ¬ (h : Int) = 2 := by omega
       go_wp2_with fail
       go_meet
       exact ⟨p, h, rfl, rfl, hp, HF1.out⟩
     case rest =>
      obtain ⟨p, h, rfl, rfl, hp, hF⟩ := hcut
      have HF := Lib.hid hF
      clear hF HF1
      go_upto_region 15 with fail
      go_cut [68] (fun v wx => BoolV v ∧ Fr blk off n W wx)
      case first =>
       cases wb <;> cases wp <;> (go_wp2_with fail; go_meet; exact ⟨⟨_, rfl⟩, HF.out⟩)
      case rest =>
       obtain ⟨⟨t, rfl⟩, hF⟩ := hcut
       have HF := Lib.hid hF
       clear hF
       go_upto_if 68 with fail
       go_cut [] (fun wx => Fr blk off n W wx)
       case first =>
        cases t
        ·go_wp2_with fail
         go_meet
         exact HF.out
        ·have HC := Lib.hid (partial_u blk off n cap a' b' wc HF.out.row (by omega) hb hn)
         go_wp2_with fail
         refine HC.out.mono ?_
         rintro e w2 ⟨⟨t, rfl⟩, hF2⟩
         have HF2 := Lib.hid (HF.out.trans hF2)
         clear HC hF2
         cases t
         ·go_wp2_with fail
          go_meet
          exact HF2.out
         ·go_wp2_with fail
          (try simp only [Exit.inBlock, Exit.then]); refine bodyPost_ret (results_none rfl _ _ _) rfl ?_
          exact ⟨rfl, HF2.out⟩
       case rest =>
        have HF := Lib.hid hcut
        obtain ⟨G, hc, hf⟩ := hcut.row.fam
        clear hcut
        go_upto_region 17 with fail
        go_cut [87] (fun v wx => ∃ t : Bool, v = .bool t ∧ (t = true → 0 < a') ∧ Fr blk off n W wx)
        case first =>
         rcases Nat.eq_zero_or_pos a' with h0 | h0
         ·have hI2 : decide ((a' : Int) > 0) = false := decide_eq_false (by omega)
          go_big_quiet (first | (go_at_call 312; refine Calls.quiet_of_same (less_u _ _ _)))
          go_wp2_with fail
          go_meet
          exact ⟨false, rfl, fun h => (by cases h), HF.out.drew _⟩
         ·have hI2 : (a' : Int) > 0 := by omega
          go_big_quiet (first | (go_at_call 312; refine Calls.quiet_of_same (less_u _ _ _)))
          go_wp2_with fail
          all_goals
           go_meet
           exact ⟨_, rfl, fun _ => h0, HF.out.drew _⟩
        case rest =>
         obtain ⟨t, rfl, ht, hF⟩ := hcut
         have HF := Lib.hid hF
         clear hF hc hf
         cases t
         ·have HC := Lib.hid (part_u blk off n cap a' b' p wc HF.out.row hp.1 hp.2 hb hn)
          go_wp2_with fail
          refine HC.out.mono ?_
          rintro e w2 ⟨mid, t, rfl, hm0, hm1, hF2⟩
          have HF2 := Lib.hid (HF.out.trans hF2)
          clear HC hF2 HF
          by_cases h4 : mid - a' < b' - mid
          ·have h4z : (mid : Int) - (a' : Int) < (b' : Int) - (mid : Int) := by omega
           have HC := Lib.hid (IH.out a' mid lim2 w2 (by omega) hm0 (by omega) hlim2 HF2.out.row)
           go_wp2_with fail
           refine HC.out.mono ?_
           rintro e w3 ⟨rfl, hF3⟩
           have HF3 := Lib.hid (HF2.out.trans hF3)
           clear HC hF3 HF2
           go_wp2_with fail
           go_roundw
           case rel => exact ⟨mid + 1, b', lim2, by congr 1 <;> omega, rfl, rfl, ⟨_, rfl⟩, ⟨_, rfl⟩, by omega, hb, by omega, hlim2, HF3.out⟩
           case measure => simp [slotN]; omega
          ·have h4z : ¬ (mid : Int) - (a' : Int) < (b' : Int) - (mid : Int) := by omega
           have H5 := IH.out (mid + 1) b' lim2 w2 (by omega) (by omega) hb hlim2 HF2.out.row
           rw [show ((mid + 1 : Nat) : Int) = (mid : Int) + 1 by omega] at H5
           have HC := Lib.hid H5
           clear H5
           go_wp2_with fail
           refine HC.out.mono ?_
           rintro e w3 ⟨rfl, hF3⟩
           have HF3 := Lib.hid (HF2.out.trans hF3)
           clear HC hF3 HF2
           go_wp2_with fail
           go_roundw
           case rel => exact ⟨a', mid, lim2, rfl, rfl, rfl, ⟨_, rfl⟩, ⟨_, rfl⟩, hm0, by omega, by omega, hlim2, HF3.out⟩
           case measure => simp [slotN]; omega
         ·have h0 := ht rfl
          have HC := Lib.hid (parteq_u blk off n cap a' b' p wc HF.out.row hp.1 hp.2 hb hn)
          go_wp2_with fail
          refine HC.out.mono ?_
          rintro e w2 ⟨mid, rfl, hm0, hm1, hF2⟩
          have HF2 := Lib.hid (HF.out.trans hF2)
          clear HC hF2 HF
          go_wp2_with fail
          go_roundw
          case rel => exact ⟨mid, b', lim2, rfl, rfl, rfl, ⟨wb, rfl⟩, ⟨wp, rfl⟩, hm1, hb, by omega, hlim2, HF2.out⟩
          case measure => simp [slotN]; omega
theorem pdq_u (blk off n cap : Nat) (hn : n ≤ 1000000000) (m : Nat) : ∀ (a b limit : Nat) (W : World), b - a < m → a ≤ b → b ≤ n → limit ≤ 1000 → RowU blk off n W →
 Calls Tryz.prog 248 #[.slice (some ⟨blk, off, none⟩) n cap, .int .i64 a, .int .i64 b, .int .i64 limit] W fun e w' => e = .returned (.tuple #[]) ∧ Fr blk off n W w' := by
 induction m with
 | zero => intro a b limit W hm; omega
 | succ m ih => exact pdq_step blk off n cap hn m ih
end Go.Proofs.YtabenhpjgjjgnaaGreatDoor
/- maps. -/
namespace Go.Proofs.YtabenhpjgjjgnaaGreatDoor
open Go.RowKit Go.Shelf
set_option maxRecDepth 100000
set_option maxHeartbeats 2000000 in
theorem keys1_any (F : Fence) (n : Nat) (h8 : F.fn 206) (hro : F.round = none) (hn : 1 ≤ n) (y Bm q : Nat) (l : List (Nat × Int × Int)) (J Jx : List (Nat × Int × Int) → World → Prop)
 (hY : ∀ pre x W, J pre W → pre.length < l.length → YieldAt F (n - 1) Tryz.prog y #[bkey x] W fun e W' => (e = .returned (.bool true) ∧ J (pre ++ [x]) W' ∧ KeepsWalks W W') ∨ (e = .returned (.bool false) ∧ Jx (pre ++ [x]) W'))
 (W : World) (hJ : AbidesFrom W.heap.size J) (hm : W.cell? ⟨Bm, 0, none⟩ = some (.map (some q))) (hB : BlocksAt q l W) (h0 : J [] W) :
 CallsIn F n Tryz.prog 206 #[.func (.yield y) #[] #[], .pointer (some ⟨Bm, 0, none⟩)] W fun e W' => (∃ v, e = .returned v) ∧ ((∃ xs, xs.Perm l ∧ J xs W') ∨ (∃ pre, True ∧ Jx pre W')) := by
 obtain ⟨w0, hrg, hW0, hg0⟩ := wk_range (P := Tryz.prog) Tryz.underlying122 hB
 have HW0 := Lib.hid hW0
 have HJ0 := Lib.hid (hJ [] W w0 none h0 hg0 (fun r e => by cases e))
 have HN := Lib.hid (show W.heap.size ≠ q from fun e => by have := hB.lt; omega)
 have HY := Lib.hid hY
 have HJ := Lib.hid hJ
 clear hW0 hY hJ hB h0 hg0
 refine callsIn_of_wp Tryz.func206 rfl h8 ?_ hro
 simp only [Tryz.ntmps206, List.size_toArray, List.length_cons, List.length_nil, Nat.reduceAdd, Nat.reduceSub, Array.replicate_succ, Array.replicate_zero, List.push_toArray, List.append_toArray, List.nil_append, List.cons_append]
 gi_wp2
 clear hrg hm
 gi_loopw [3] (fun _ wr => ∃ xs, Wk q W.heap.size l xs wr ∧ J xs wr) (fun _ wr => wr.rangeLeft q W.heap.size)
 case atStart => exact ⟨[], HW0.out, HJ0.out⟩
 case round =>
  obtain ⟨xs, hw, hj⟩ := hrel
  have HWk := Lib.hid hw
  have HJs := Lib.hid hj
  clear HW0 HJ0
  rcases wk_next (P := Tryz.prog) hw HN.out with ⟨hp, hnx⟩ | ⟨x, w2, hnx, hw2, hlt, hg2, hlen, hen⟩
  ·have HP := Lib.hid hp
   clear hp hw hj
   gi_wp2
   go_end0
   exact ⟨⟨_, rfl⟩, .inl ⟨xs, HP.out, HJs.out⟩⟩
  ·have HW2 := Lib.hid hw2
   have HLT := Lib.hid hlt
   have hJ2 : J xs w2 := HJ.out xs wr w2 (some W.heap.size) hj hg2 (fun r e => by cases e; exact ⟨Nat.le_refl _, hw.walk⟩)
   obtain ⟨fn, tmps, assign, body, hy, hR⟩ := HY.out xs x _ hJ2 hlen
   have HR := Lib.hid hR
   unfold bkey at hy hnx hen
   unfold bval at hnx hen
   clear hw hj hw2 hlt hg2 hlen hJ2 hR
   gi_wp2
   refine HR.out.mono ?_
   rintro e W3 (⟨rfl, hJ4, hk3⟩ | ⟨rfl, hJx4⟩)
   ·have HW3 := Lib.hid (HW2.out.keeps hk3)
    have HJ4 := Lib.hid hJ4
    have HL3 := Lib.hid (show W3.rangeLeft q W.heap.size < wr.rangeLeft q W.heap.size by rw [HW2.out.left hk3]; exact HLT.out)
    clear hJ4 hk3 hy hnx hen HR
    gi_wp2
    go_roundw
    case rel => exact ⟨xs ++ [x], HW3.out, HJ4.out⟩
    case measure => exact HL3.out
   ·clear hy hnx hen HR
    gi_wp2
    refine bodyPost_ret (results_none rfl _ _ _) rfl ?_
    exact ⟨⟨_, rfl⟩, .inr ⟨_, trivial, hJx4⟩⟩
theorem keys_any (F : Fence) (n : Nat) (hf : F.fn 119) (hro : F.round = none) (mb : Option Nat) (w : World) :
 CallsIn F n Tryz.prog 119 #[.map mb] w fun e w' => e = .returned (.func (.func 206) #[] #[.pointer (some ⟨w.heap.size, 0, none⟩)]) ∧ w' = w.alloc (.cells #[.map mb] 122) := by
 refine callsIn_of_wp Tryz.func119 rfl hf ?_ hro
 simp only [Tryz.ntmps119, List.size_toArray, List.length_cons, List.length_nil, Nat.reduceAdd, Nat.reduceSub, Array.replicate_succ, Array.replicate_zero, List.push_toArray, List.append_toArray, List.nil_append, List.cons_append]
 gi_wp2
 go_ret
 exact ⟨rfl, rfl⟩
theorem keys_stops (F : Fence) (n : Nat) (h8 : F.fn 206) (hro : F.round = none) (hn : 1 ≤ n) (Bm q : Nat) (l : List (Nat × Int × Int)) (w : World) (hBm : Bm < w.heap.size) (hm : w.cell? ⟨Bm, 0, none⟩ = some (.map (some q))) (hB : BlocksAt q l w) :
 SeqStopsK F n Tryz.prog 206 #[.pointer (some ⟨Bm, 0, none⟩)] (fun x => #[bkey x]) KeepsWalks (fun xs => xs.Perm l) (fun _ => True) l.length w := fun y J Jx W hW hJ _ hY h0 =>
 keys1_any F n h8 hro hn y Bm q l J Jx hY W hJ ((hW.cell (p := ⟨Bm, 0, none⟩) hBm).trans hm) (hB.later (hW.block q hB.lt)) h0
end Go.Proofs.YtabenhpjgjjgnaaGreatDoor
