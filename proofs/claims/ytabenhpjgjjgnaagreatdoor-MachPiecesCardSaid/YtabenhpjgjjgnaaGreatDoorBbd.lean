/- A machine goes back to who called. An instruction that was read. Condition: what lies in memory can lie there; what each theorem says. -/
import Derived.Test.YtabenhpjgjjgnaaGreatDoorBaw
import Derived.Test.YtabenhpjgjjgnaaGreatDoorBay
import Derived.Test.YtabenhpjgjjgnaaGreatDoorBaj
/- A machine goes back to who called. -/
namespace Go.Proofs.YtabenhpjgjjgnaaGreatDoor
open Go.RowKit
set_option maxRecDepth 100000
attribute [local go_sem ↓] Go.wp_at_zero Go.wp_at_succ
set_option maxHeartbeats 8000000 in
theorem leave_rest (K : MK) (k : KOk K) (S : St) (s : SOk K S) (is : Bool) (hf : (hereP K S).fn = is) (hB : ¬ (S.ws (S.fp.toNat - 1 + 1) = 0 ∧ S.fp = K.low)) (hd0 : -1000000000 ≤ S.depth) (hd1 : S.depth ≤ 1000000000) (W : World) (h : At K S W) :
 Calls Tryz.prog 151 #[.pointer (some ⟨K.b, 0, none⟩), .bool is] W (OpEnd K W (leaveM K is S)) := by
 have HL0 := Lib.hid (show leaveM K is S = leaveL K is (S.ws (S.fp.toNat - 1 + 1)) (S.ws (S.fp.toNat - 1 + 2)) (S.ws (S.fp.toNat - 1 + 3)) (S.ws (S.fp.toNat - 1 + 4)) S by unfold leaveM; rw [if_neg (by simpa using hf)])
 have l1 := k.low1
 have l5 := s.fp1
 have l6 := s.sp0
 have l7 := s.sp1
 have l8 := s.top
 have l3 := k.high
 have l4 := k.n_le
 obtain ⟨⟨_, _⟩, ⟨q2, q3⟩, ⟨q4, q5⟩, ⟨q6, q7⟩, _, _⟩ := hereOk k s.toROk
 generalize hp : hereP K S = p at *
 obtain ⟨pa, pp, pl, pd, pv, pf⟩ := p
 unfold baseN at l6 l7 l8
 simp only at l6 l7 l8 q2 q3 q4 q5 q6 q7 hf
 have HP := Lib.hid hp
 have HK := Lib.hid k
 have HS := Lib.hid s
 have H := Lib.hid h
 have hfd := field_fn pa pp pl pd pv pf
 have hne : (!pf == is) = false := by cases pf <;> cases is <;> simp_all
 have HB := Lib.hid hB
 clear hp s h k hf hB
 go_enter Tryz.func151, Tryz.ntmps151
 go_wp2_with fail
 refine (here_eq H.out HS.out.toROk HP.out).mono ?_
 rintro e w1 ⟨rfl, hb1⟩
 have H1 := Lib.hid (H.out.grow hb1)
 have HO1 := Lib.hid (Only.of_below (bs := K.bs) hb1)
 clear hb1 H
 go_wp2_with fail
 clear hne
 have h2 := H1.out.grow (drew_below w1)
 have ho2 := HO1.out.trans (Only.of_below (bs := K.bs) (drew_below w1))
 clear H1 HO1
 refine wp_region_held_drew (S := At K S) (by kernel_rfl) (by assumption) (fun hHeld => ?_)
 refine wpAnyH_take (i := 0) (v := .pointer (some ⟨K.b, 0, none⟩)) rfl (by kernel_rfl) (by kernel_rfl) (by kernel_rfl) (fun _ _ _ h => h) (Or.inl ⟨by rfl, ?_⟩) (by assumption) ?_
 ·intro w hSw; go_simp
 simp only [Act.put, List.setIfInBounds_toArray]
 refine wpAnyH_take (i := 1) (v := .pointer (some ⟨K.b, 0, none⟩)) rfl (by kernel_rfl) (by kernel_rfl) (by kernel_rfl) (fun _ _ _ h => h) (Or.inl ⟨by rfl, ?_⟩) (by assumption) ?_
 ·intro w hSw; go_simp
 simp only [Act.put]
 refine wpAnyH_take (i := 2) (v := .pointer (some ⟨K.b, 3, none⟩)) rfl (by kernel_rfl) (by kernel_rfl) (by kernel_rfl) (fun _ _ _ h => h) (Or.inl ⟨by rfl, ?_⟩) (by assumption) ?_
 ·intro w hSw; go_simp
 simp only [Act.put]
 refine wpAnyH_take (i := 3) (v := .pointer (some ⟨K.bm, 0, none⟩)) rfl (by kernel_rfl) (by kernel_rfl) (by kernel_rfl) (fun _ _ _ h => h) (Or.inl ⟨by rfl, ?_⟩) (by assumption) ?_
 ·intro w hSw; have m3 := hSw.c3; go_simp
 simp only [Act.put]
 refine wpAnyH_take (i := 4) (v := .pointer (some ⟨K.b, 0, none⟩)) rfl (by kernel_rfl) (by kernel_rfl) (by kernel_rfl) (fun _ _ _ h => h) (Or.inl ⟨by rfl, ?_⟩) (by assumption) ?_
 ·intro w hSw; go_simp
 simp only [Act.put]
 refine wpAnyH_take (i := 5) (v := .pointer (some ⟨K.b, 0, none⟩)) rfl (by kernel_rfl) (by kernel_rfl) (by kernel_rfl) (fun _ _ _ h => h) (Or.inl ⟨by rfl, ?_⟩) (by assumption) ?_
 ·intro w hSw; go_simp
 simp only [Act.put]
 refine wpAnyH_take (i := 6) (v := .pointer (some ⟨K.b, 13, none⟩)) rfl (by kernel_rfl) (by kernel_rfl) (by kernel_rfl) (fun _ _ _ h => h) (Or.inl ⟨by rfl, ?_⟩) (by assumption) ?_
 ·intro w hSw; go_simp
 simp only [Act.put]
 refine wpAnyH_take (i := 7) (v := .int .i64 S.fp) rfl (by kernel_rfl) (by kernel_rfl) (by kernel_rfl) (fun _ _ _ h => h) (Or.inl ⟨by rfl, ?_⟩) (by assumption) ?_
 ·intro w hSw; have m13 := hSw.c13; go_simp
 simp only [Act.put]
 refine wpAnyH_ready (rs := [8]) (by kernel_rfl) (by simp) ?_
 refine AllReadyH.cons rfl (fun K' hK => ?_) AllReadyH.nil
 go_simp
 refine (row_eq K.bm K.n S.ws S.fp 5 (by omega) (by omega) _ (h2.mem)).mono ?_
 rintro e w4 ⟨A4, c4, rfl, hW4, hb4⟩
 obtain ⟨b4, o4, rfl, hc4⟩ := word_cells (hW4 K.bs h2.old) (by rw [rowM_length]; omega)
 refine hK.out _ _ (h2.grow hb4) (fun hHeld4 => ?_)
 clear hK K'
 refine wpAnyH_take (i := 9) (v := .tuple #[.slice (some ⟨b4, o4, none⟩) 5 c4, .bool true]) rfl (by kernel_rfl) (by kernel_rfl) (by kernel_rfl) (fun _ _ _ h => h) (Or.inl ⟨by rfl, ?_⟩) (by assumption) ?_
 ·intro w hSw; go_simp
 simp only [Act.put, List.setIfInBounds_toArray]
 refine wpAnyH_take (i := 10) (v := .slice (some ⟨b4, o4, none⟩) 5 c4) rfl (by kernel_rfl) (by kernel_rfl) (by kernel_rfl) (fun _ _ _ h => h) (Or.inl ⟨by rfl, ?_⟩) (by assumption) ?_
 ·intro w hSw; go_simp
 simp only [Act.put]
 refine wpAnyH_take (i := 11) (v := .bool true) rfl (by kernel_rfl) (by kernel_rfl) (by kernel_rfl) (fun _ _ _ h => h) (Or.inl ⟨by rfl, ?_⟩) (by assumption) ?_
 ·intro w hSw; go_simp
 simp only [Act.put]
 refine wpAnyH_take (i := 12) (v := .slice (some ⟨b4, o4, none⟩) 5 c4) rfl (by kernel_rfl) (by kernel_rfl) (by kernel_rfl) (fun _ _ _ h => h) (Or.inl ⟨by rfl, ?_⟩) (by assumption) ?_
 ·intro w hSw; go_simp
 simp only [Act.put]
 refine wpAnyH_take (i := 13) (v := .bool true) rfl (by kernel_rfl) (by kernel_rfl) (by kernel_rfl) (fun _ _ _ h => h) (Or.inl ⟨by rfl, ?_⟩) (by assumption) ?_
 ·intro w hSw; go_simp
 simp only [Act.put]
 refine wpAnyH_done (by kernel_rfl) ?_ _
 simp only [List.getElem_toArray, List.getElem_cons_succ, List.getElem_cons_zero, List.setIfInBounds_toArray, List.set_cons_zero, List.set_cons_succ]
 have H4 := Lib.hid (h2.grow hb4)
 have HO4 := Lib.hid (ho2.trans (Only.of_below (bs := K.bs) hb4))
 obtain ⟨e1, r1⟩ := hc4 1 (by rw [rowM_length]; omega)
 obtain ⟨e2, r2⟩ := hc4 2 (by rw [rowM_length]; omega)
 obtain ⟨e3, r3⟩ := hc4 3 (by rw [rowM_length]; omega)
 obtain ⟨e4, r4⟩ := hc4 4 (by rw [rowM_length]; omega)
 rw [rowM_get _ _ _ _ (by omega)] at e1 e2 e3 e4 r1 r2 r3 r4
 have hlt : b4 < w4.heap.size := lt_of_cell e1
 have HBM := Lib.hid (show backM S = { S with sp := S.fp, fp := S.ws (S.fp.toNat - 1 + 1), mod := S.ws (S.fp.toNat - 1 + 2), proc := S.ws (S.fp.toNat - 1 + 4), next := S.ws (S.fp.toNat - 1 + 3), depth := S.depth - 1 } from rfl)
 generalize S.ws (S.fp.toNat - 1 + 1) = x1 at *
 generalize S.ws (S.fp.toNat - 1 + 2) = x2 at *
 generalize S.ws (S.fp.toNat - 1 + 3) = x3 at *
 generalize S.ws (S.fp.toNat - 1 + 4) = x4 at *
 have v1 : IntKind.i64.wrap (x1 : Int) = x1 := IntWalk.i64_in _ (by omega)
 have v2 : IntKind.i64.wrap (x2 : Int) = x2 := IntWalk.i64_in _ (by omega)
 have v3 : IntKind.i64.wrap (x3 : Int) = x3 := IntWalk.i64_in _ (by omega)
 have v4 : IntKind.i64.wrap (x4 : Int) = x4 := IntWalk.i64_in _ (by omega)
 clear hc4 hW4 hHeld4 h2 ho2 hb4
 go_wp2_with fail
 refine wp_region_grow (by kernel_rfl) (by kernel_rfl) ?_
 repeat (first | go_big_quiet_step (fail))
 refine wpQuiet_nil ?_
 rintro _ ⟨gx, rfl⟩
 have H5 := Lib.hid (H4.out.grow (growN_below w4 gx))
 have HO5 := Lib.hid (HO4.out.trans (Only.of_below (bs := K.bs) (growN_below w4 gx)))
 clear H4 HO4 e1 e2 e3 e4 hlt v1 v2 v3 v4
 generalize growN w4 gx = w5 at *
 by_cases hx0 : x1 = 0
 ·have n0 : ((x1 : Int) == 0) = true := beq_iff_eq.2 (by omega)
  have hne2 : S.fp ≠ K.low := fun e => HB.out ⟨hx0, e⟩
  have n1 : (S.fp == K.low) = false := beq_eq_false_iff_ne.2 hne2
  have m13 := H5.out.c13
  have m7 := H5.out.c7
  have hlt := H5.out.lt
  go_wp2_with fail
  refine wp_region_grow (by kernel_rfl) (by kernel_rfl) ?_
  repeat (first | go_big_quiet_step (fail))
  refine wpQuiet_nil ?_
  rintro _ ⟨gx, rfl⟩
  have H6 := Lib.hid (H5.out.grow (growN_below w5 gx))
  have HO6 := Lib.hid (HO5.out.trans (Only.of_below (bs := K.bs) (growN_below w5 gx)))
  clear H5 HO5 n0 n1 m13 m7 hlt
  generalize growN w5 gx = w6 at *
  have m7 := H6.out.c7
  have hlt := H6.out.lt
  have d1 : decide ((x1 : Int) < K.low) = true := decide_eq_true (by omega)
  have HR := Lib.hid (show leaveM K is S = (S, 13) by rw [HL0.out]; unfold leaveL; rw [if_neg (by omega), if_pos (by omega)])
  go_wp2_with fail
  go_ret
  rw [HR.out]
  exact ⟨rfl, H6.out, HO6.out⟩
 have n0 : ((x1 : Int) == 0) = false := beq_eq_false_iff_ne.2 (by omega)
 go_wp2_with fail
 refine wp_region_grow (by kernel_rfl) (by kernel_rfl) ?_
 repeat (first | go_big_quiet_step (fail))
 refine wpQuiet_nil ?_
 rintro _ ⟨gx, rfl⟩
 have H6 := Lib.hid (H5.out.grow (growN_below w5 gx))
 have HO6 := Lib.hid (HO5.out.trans (Only.of_below (bs := K.bs) (growN_below w5 gx)))
 clear H5 HO5 n0
 generalize growN w5 gx = w6 at *
 have m13 := H6.out.c13
 have m7 := H6.out.c7
 have c1 := H6.out.c1
 have hlt := H6.out.lt
 by_cases z1 : (x1 : Int) < K.low
 ·have d1 : decide ((x1 : Int) < K.low) = true := decide_eq_true z1
  have HR := Lib.hid (show leaveM K is S = (S, 13) by rw [HL0.out]; unfold leaveL; rw [if_neg (by omega), if_pos (by omega)])
  go_wp2_with fail
  go_ret
  rw [HR.out]
  exact ⟨rfl, H6.out, HO6.out⟩
 have d1 : decide ((x1 : Int) < K.low) = false := decide_eq_false z1
 by_cases z2 : S.fp ≤ (x1 : Int)
 ·have d2 : decide (S.fp ≤ (x1 : Int)) = true := decide_eq_true z2
  have HR := Lib.hid (show leaveM K is S = (S, 13) by rw [HL0.out]; unfold leaveL; rw [if_neg (by omega), if_neg (by omega), if_pos (by omega)])
  go_wp2_with fail
  go_ret
  rw [HR.out]
  exact ⟨rfl, H6.out, HO6.out⟩
 have d2 : decide (S.fp ≤ (x1 : Int)) = false := decide_eq_false z2
 have hml := HK.out.mods_le
 by_cases z3 : K.mods.length ≤ x2
 ·have d3 : decide (K.mods.length ≤ x2) = true := decide_eq_true z3
  have HR := Lib.hid (show leaveM K is S = (S, 13) by rw [HL0.out]; unfold leaveL; rw [if_neg (by omega), if_neg (by omega), if_neg (by omega), if_pos (by omega)])
  go_wp2_with fail
  go_ret
  rw [HR.out]
  exact ⟨rfl, H6.out, HO6.out⟩
 have d3 : decide (K.mods.length ≤ x2) = false := decide_eq_false z3
 by_cases z4 : (K.mods.getD x2 default).procs.length ≤ x4
 ·have HR := Lib.hid (show leaveM K is S = (S, 13) by rw [HL0.out]; unfold leaveL; rw [if_neg (by omega), if_neg (by omega), if_neg (by omega), if_neg (by omega), if_pos (by omega)])
  go_wp2_with fail
  refine (procs_no K S (x2 : Int) (x4 : Int) (by omega) (by omega) (by rw [Int.toNat_natCast]; omega) _ H6.out).mono ?_
  rintro e w7 ⟨rfl, hb7⟩
  have H7 := Lib.hid (H6.out.grow hb7)
  have HO7 := Lib.hid (HO6.out.trans (Only.of_below (bs := K.bs) hb7))
  clear hb7 m13 m7 c1 hlt H6 HO6
  go_wp2_with fail
  go_ret
  rw [HR.out]
  exact ⟨rfl, H7.out, HO7.out⟩
 clear c1
 obtain ⟨mb, mo, pb, po, pc, c1, hmb, ks, kc, hpb, hP⟩ := mod_cells H6.out (m := x2) (p := x4) (by omega) (by omega)
 have hxm : x2 ≤ 64 := by omega
 have d6 : (x2 : Int) < (K.mods.length : Int) := by omega
 go_wp2_with fail
 refine (procs_yes K S (x2 : Int) (x4 : Int) (by omega) (by omega) (by rw [Int.toNat_natCast]; omega) _ H6.out).mono ?_
 rintro e w7 ⟨rfl, hb7⟩
 have H7 := Lib.hid (H6.out.grow hb7)
 have HO7 := Lib.hid (HO6.out.trans (Only.of_below (bs := K.bs) hb7))
 have c1 := (hb7.cell (p := ⟨K.b, 1, none⟩) hlt).trans c1
 have ks := (hb7.cell (p := ⟨mb, mo + x2 * 5, none⟩) hmb).trans ks
 have kc := (hb7.cell (p := ⟨mb, mo + x2 * 5 + 1, none⟩) hmb).trans kc
 have hP : ProcAt w7 pb (po + x4 * 6) ((K.mods.getD x2 default).procs.getD x4 default) := hP.later hb7 (Nat.le_refl _) hpb
 have hmb := Nat.lt_of_lt_of_le hmb hb7.size
 have hpb := Nat.lt_of_lt_of_le hpb hb7.size
 clear hb7 H6 HO6 m13 m7 hlt
 have hz4 : (x4 : Int) < ((K.mods.getD x2 default).procs.length : Int) := by omega
 have hpe : (K.mods.getD x2 default).procs.getD x4 default = procOf K (x2 : Nat) (x4 : Nat) := by unfold procOf; rw [Int.toNat_natCast, Int.toNat_natCast]
 rw [hpe] at hP
 have hq := procOk HK.out (getD_mem' _ _ default (show x2 < K.mods.length by omega)) (p := (K.mods.getD x2 default).procs.getD x4 default) (getD_mem' _ _ default (show x4 < (K.mods.getD x2 default).procs.length by omega))
 rw [hpe] at hq
 clear hpe
 have HL1 := Lib.hid (show leaveM K is S = if (K.mods.getD x2 default).code.length < x3 then (S, 13)
  else if S.fp < x1 + baseN (procOf K x2 x4) then (S, 13)
  else if x1 + baseN (procOf K x2 x4) + (procOf K x2 x4).depth < S.fp then (S, 13)
  else if K.high < x1 + baseN (procOf K x2 x4) + (procOf K x2 x4).depth then (S, 13)
  else if is = true ∧ S.fp = x1 + baseN (procOf K x2 x4) + (procOf K x2 x4).depth then (S, 14)
  else (backM S, 0) by rw [HL0.out]; unfold leaveL; rw [if_neg (by omega), if_neg (by omega), if_neg (by omega), if_neg (by omega), if_neg (by omega)])
 clear HL0 z4
 generalize (K.mods.getD x2 default).procs.length = npl at *
 generalize (K.mods.getD x2 default).code = code at *
 generalize procOf K (x2 : Nat) (x4 : Nat) = pr at *
 obtain ⟨ga, gp, gl, gd, gv, gf⟩ := pr
 obtain ⟨r0, r1', r2', r3', r4', r5⟩ := hP
 unfold baseN at HL1
 simp only at r0 r1' r2' r3' r4' r5 hq HL1
 obtain ⟨⟨_, _⟩, ⟨g2, g3⟩, ⟨g4, g5⟩, ⟨g6, g7⟩, _, _⟩ := hq
 have hlt := H7.out.lt
 clear d1 d2 d3
 by_cases z5 : code.length < x3
 ·have d5 : decide (code.length < x3) = true := decide_eq_true z5
  have HR := Lib.hid (show leaveM K is S = (S, 13) by rw [HL1.out, if_pos (by omega)])
  go_wp2_with fail
  go_ret
  rw [HR.out]
  exact ⟨rfl, H7.out, HO7.out⟩
 have d5 : decide (code.length < x3) = false := decide_eq_false z5
 go_wp2_with fail
 clear d5
 have HX8 := Lib.hid (Bx.new w7 #[.int .i64 ga, .int .i64 gp, .int .i64 gl, .int .i64 gd, .int .i64 gv, .bool gf] 113)
 have H8 := Lib.hid (H7.out.grow (alloc_below w7 (.cells #[.int .i64 ga, .int .i64 gp, .int .i64 gl, .int .i64 gd, .int .i64 gv, .bool gf] 113)))
 have HO8 := Lib.hid (HO7.out.trans (Only.of_below (bs := K.bs) (alloc_below w7 (.cells #[.int .i64 ga, .int .i64 gp, .int .i64 gl, .int .i64 gd, .int .i64 gv, .bool gf] 113))))
 clear H7 HO7 c1 hmb ks kc hpb r0 r1' r2' r3' r4' r5 hlt
 generalize w7.alloc (.cells #[.int .i64 ga, .int .i64 gp, .int .i64 gl, .int .i64 gd, .int .i64 gv, .bool gf] 113) = w8 at *
 generalize w7.heap.size = bp at *
 have k13 := H8.out.c13
 have k8 := H8.out.c8
 have s0 := H8.out.lt
 have s1 := HX8.out.lt
 obtain ⟨r0, r1', r2', r3', r4', r5⟩ := proc_cells HX8.out
 have e1 : IntKind.i64.wrap ((x1 : Int) + (5 + gp + gl)) = (x1 : Int) + (5 + gp + gl) := IntWalk.i64_in _ (by omega)
 have e2 : IntKind.i64.wrap ((x1 : Int) + (5 + gp + gl) + gd) = (x1 : Int) + (5 + gp + gl) + gd := IntWalk.i64_in _ (by omega)
 by_cases z6 : S.fp < (x1 : Int) + (5 + gp + gl)
 ·have d1 : decide (S.fp < (x1 : Int) + (5 + gp + gl)) = true := decide_eq_true z6
  have HR := Lib.hid (show leaveM K is S = (S, 13) by rw [HL1.out, if_neg (by omega), if_pos (by omega)])
  refine wp_region_grow (by kernel_rfl) (by kernel_rfl) ?_
  repeat (first | go_big_quiet_step (first
   | (go_at_call 56; refine quiet_grow (base_eq (by omega) (by omega) (by omega) (by omega) rfl))))
  refine wpQuiet_nil ?_
  rintro _ ⟨gx, rfl⟩
  have H9 := Lib.hid (H8.out.grow (growN_below w8 gx))
  have HO9 := Lib.hid (HO8.out.trans (Only.of_below (bs := K.bs) (growN_below w8 gx)))
  have HX9 := Lib.hid (HX8.out.grow (growN_below w8 gx))
  clear H8 HO8 HX8 k13 k8 s0 s1 r0 r1' r2' r3' r4' r5
  generalize growN w8 gx = w9 at *
  go_wp2_with fail
  go_ret
  rw [HR.out]
  exact ⟨rfl, H9.out, HO9.out⟩
 have d1 : decide (S.fp < (x1 : Int) + (5 + gp + gl)) = false := decide_eq_false z6
 by_cases z7 : (x1 : Int) + (5 + gp + gl) + gd < S.fp
 ·have d2 : decide ((x1 : Int) + (5 + gp + gl) + gd < S.fp) = true := decide_eq_true z7
  have HR := Lib.hid (show leaveM K is S = (S, 13) by rw [HL1.out, if_neg (by omega), if_neg (by omega), if_pos (by omega)])
  refine wp_region_grow (by kernel_rfl) (by kernel_rfl) ?_
  repeat (first | go_big_quiet_step (first
   | (go_at_call 56; refine quiet_grow (base_eq (by omega) (by omega) (by omega) (by omega) rfl))))
  refine wpQuiet_nil ?_
  rintro _ ⟨gx, rfl⟩
  have H9 := Lib.hid (H8.out.grow (growN_below w8 gx))
  have HO9 := Lib.hid (HO8.out.trans (Only.of_below (bs := K.bs) (growN_below w8 gx)))
  have HX9 := Lib.hid (HX8.out.grow (growN_below w8 gx))
  clear H8 HO8 HX8 k13 k8 s0 s1 r0 r1' r2' r3' r4' r5
  generalize growN w8 gx = w9 at *
  go_wp2_with fail
  go_ret
  rw [HR.out]
  exact ⟨rfl, H9.out, HO9.out⟩
 have d2 : decide ((x1 : Int) + (5 + gp + gl) + gd < S.fp) = false := decide_eq_false z7
 by_cases z8 : K.high < (x1 : Int) + (5 + gp + gl) + gd
 ·have d3 : decide (K.high < (x1 : Int) + (5 + gp + gl) + gd) = true := decide_eq_true z8
  have HR := Lib.hid (show leaveM K is S = (S, 13) by rw [HL1.out, if_neg (by omega), if_neg (by omega), if_neg (by omega), if_pos (by omega)])
  refine wp_region_grow (by kernel_rfl) (by kernel_rfl) ?_
  repeat (first | go_big_quiet_step (first
   | (go_at_call 56; refine quiet_grow (base_eq (by omega) (by omega) (by omega) (by omega) rfl))))
  refine wpQuiet_nil ?_
  rintro _ ⟨gx, rfl⟩
  have H9 := Lib.hid (H8.out.grow (growN_below w8 gx))
  have HO9 := Lib.hid (HO8.out.trans (Only.of_below (bs := K.bs) (growN_below w8 gx)))
  have HX9 := Lib.hid (HX8.out.grow (growN_below w8 gx))
  clear H8 HO8 HX8 k13 k8 s0 s1 r0 r1' r2' r3' r4' r5
  generalize growN w8 gx = w9 at *
  go_wp2_with fail
  go_ret
  rw [HR.out]
  exact ⟨rfl, H9.out, HO9.out⟩
 have d3 : decide (K.high < (x1 : Int) + (5 + gp + gl) + gd) = false := decide_eq_false z8
 refine wp_region_grow (by kernel_rfl) (by kernel_rfl) ?_
 repeat (first | go_big_quiet_step (first
  | (go_at_call 56; refine quiet_grow (base_eq (by omega) (by omega) (by omega) (by omega) rfl))))
 refine wpQuiet_nil ?_
 rintro _ ⟨gx, rfl⟩
 have H9 := Lib.hid (H8.out.grow (growN_below w8 gx))
 have HO9 := Lib.hid (HO8.out.trans (Only.of_below (bs := K.bs) (growN_below w8 gx)))
 have HX9 := Lib.hid (HX8.out.grow (growN_below w8 gx))
 clear H8 HO8 HX8 k13 k8 s0 s1 r0 r1' r2' r3' r4' r5
 generalize growN w8 gx = w9 at *
 go_upto_region 12 with (fail)
 clear d1 d2 d3
 have k13 := H9.out.c13
 have s0 := H9.out.lt
 have s1 := HX9.out.lt
 obtain ⟨r0, r1', r2', r3', r4', r5⟩ := proc_cells HX9.out
 have HR0 := Lib.hid (show leaveM K is S = if is = true ∧ S.fp = (x1 : Int) + (5 + gp + gl) + gd then (S, 14) else (backM S, 0) by rw [HL1.out, if_neg (by omega), if_neg (by omega), if_neg (by omega), if_neg (by omega)])
 clear HL1
 by_cases z9 : is = true ∧ S.fp = (x1 : Int) + (5 + gp + gl) + gd
 ·obtain ⟨rfl, z10⟩ := z9
  have d4 : (S.fp == (x1 : Int) + (5 + gp + gl) + gd) = true := beq_iff_eq.2 z10
  have HR := Lib.hid (show leaveM K true S = (S, 14) by rw [HR0.out, if_pos ⟨rfl, z10⟩])
  clear z10
  refine wp_region_grow (by kernel_rfl) (by kernel_rfl) ?_
  repeat (first | go_big_quiet_step (first
   | (go_at_call 56; refine quiet_grow (base_eq (by omega) (by omega) (by omega) (by omega) rfl))))
  refine wpQuiet_nil ?_
  rintro _ ⟨gy, rfl⟩
  have HA := Lib.hid (H9.out.grow (growN_below w9 gy))
  have HOA := Lib.hid (HO9.out.trans (Only.of_below (bs := K.bs) (growN_below w9 gy)))
  go_wp2_with fail
  go_ret
  rw [HR.out]
  exact ⟨rfl, HA.out, HOA.out⟩
 have HR := Lib.hid (show leaveM K is S = (backM S, 0) by rw [HR0.out, if_neg (by intro h; exact z9 h)])
 clear HR0
 cases is
 rotate_left 1
 have d4 : (S.fp == (x1 : Int) + (5 + gp + gl) + gd) = false := beq_eq_false_iff_ne.2 (fun e => z9 ⟨rfl, e⟩)
 all_goals
  refine wp_region_grow (by kernel_rfl) (by kernel_rfl) ?_
  repeat (first | go_big_quiet_step (first
   | (go_at_call 56; refine quiet_grow (base_eq (by omega) (by omega) (by omega) (by omega) rfl))))
  refine wpQuiet_nil ?_
  rintro _ ⟨gy, rfl⟩
  have HA := Lib.hid (H9.out.grow (growN_below w9 gy))
  have HOA := Lib.hid (HO9.out.trans (Only.of_below (bs := K.bs) (growN_below w9 gy)))
  clear H9 HO9 HX9 k13 s0 s1 r0 r1' r2' r3' r4' r5 e1 e2
  generalize growN w9 gy = wa at *
  have k14 := HA.out.c14
  have k13 := HA.out.c13
  have k10 := HA.out.c10
  have k11 := HA.out.c11
  have k15 := HA.out.c15
  have k17 := HA.out.c17
  have fz := HA.out.fz
  have s0 := HA.out.lt
  have HE := Lib.hid ((((((HA.out.set_sp HK.out S.fp).set_fp HK.out x1).set_mod HK.out x2).set_proc HK.out x4).set_next HK.out x3).set_depth HK.out (S.depth - 1))
  have HOE := Lib.hid ((((((HOA.out.setCell (a := ⟨K.b, 14, none⟩) HK.out.hb (.int .i64 S.fp)).setCell (a := ⟨K.b, 13, none⟩) HK.out.hb (.int .i64 x1)).setCell (a := ⟨K.b, 10, none⟩) HK.out.hb (.int .i64 x2)).setCell (a := ⟨K.b, 11, none⟩) HK.out.hb (.int .i64 x4)).setCell (a := ⟨K.b, 15, none⟩) HK.out.hb (.int .i64 x3)).setCell (a := ⟨K.b, 17, none⟩) HK.out.hb (.int .i64 (S.depth - 1)))
  go_wp2_with fail
  go_ret
  rw [HR.out, HBM.out]
  exact ⟨rfl, HE.out, HOE.out⟩
theorem leave_any (K : MK) (k : KOk K) (S : St) (s : SOk K S) (is : Bool) (h0 : 0 ≤ S.ord) (h1 : S.ord ≤ K.order.length) (hol : K.order.length ≤ 1000) (hd0 : -1000000000 ≤ S.depth) (hd1 : S.depth ≤ 1000000000) (W : World) (h : At K S W) :
 Calls Tryz.prog 151 #[.pointer (some ⟨K.b, 0, none⟩), .bool is] W (OpEnd K W (leaveM K is S)) := by
 by_cases hf : (hereP K S).fn = is
 ·by_cases hz : S.ws (S.fp.toNat - 1 + 1) = 0 ∧ S.fp = K.low
  ·have e : leaveM K is S = beginsM K S := by unfold leaveM leaveL; rw [if_neg (by simpa using hf), if_pos hz]
   rw [e]
   exact leave_begins K k S s is hf h0 h1 hol hz.1 hz.2 W h
  ·exact leave_rest K k S s is hf hz hd0 hd1 W h
 ·have e : leaveM K is S = (S, 13) := by unfold leaveM; rw [if_pos hf]
  rw [e]
  exact leave_kind K k S s is hf W h
theorem ret_any (K : MK) (k : KOk K) (S : St) (s : SOk K S) (h0 : 0 ≤ S.ord) (h1 : S.ord ≤ K.order.length) (hol : K.order.length ≤ 1000) (hd0 : -1000000000 ≤ S.depth) (hd1 : S.depth ≤ 1000000000) (W : World) (h : At K S W) :
 Calls Tryz.prog 88 #[.pointer (some ⟨K.b, 0, none⟩)] W (OpEnd K W (leaveM K false S)) := by
 have HC := Lib.hid (leave_any K k S s false h0 h1 hol hd0 hd1 W h)
 clear h
 go_enter Tryz.func88, Tryz.ntmps88
 go_wp2_with fail
 refine (HC.out).mono ?_
 rintro e w1 ⟨rfl, hA, ho⟩
 go_wp2_with fail
 go_ret
 exact ⟨rfl, hA, ho⟩
end Go.Proofs.YtabenhpjgjjgnaaGreatDoor
/- An instruction that was read. -/
namespace Go.Proofs.YtabenhpjgjjgnaaGreatDoor.K16
open Go.RowKit
theorem readN_in (c : UInt8) (s : List UInt8) (nx : Nat) : inK c (readN c s nx) = true := by
 unfold inK readN
 have h1 := (s.getD nx 0).toNat_lt
 have h2 := (s.getD (nx + 1) 0).toNat_lt
 by_cases h66 : c = 66
 ·subst h66
  simp only [lowK, highK, if_true, show ¬ ((66 : UInt8) = 74) by decide, if_false, Bool.and_eq_true, decide_eq_true_eq]
  omega
 ·by_cases h74 : c = 74
  ·subst h74
   simp only [lowK, highK, if_true, show ¬ ((74 : UInt8) = 66) by decide, if_false]
   split
   all_goals
    simp only [Bool.and_eq_true, decide_eq_true_eq]
    omega
  ·simp only [lowK, highK, h66, h74, if_false]
   split
   all_goals
    simp only [Bool.and_eq_true, decide_eq_true_eq]
    omega
theorem inK_wide {c : UInt8} {x : Int} (h : inK c x = true) : -32768 ≤ x ∧ x ≤ 65535 := by
 unfold inK lowK highK at h
 simp only [Bool.and_eq_true, decide_eq_true_eq] at h
 obtain ⟨h1, h2⟩ := h
 split at h1 <;> split at h2 <;> first | omega | (split at h2 <;> omega)
theorem readX_in {c : UInt8} {s : List UInt8} {nx : Nat} {bad : Bool} (h : (readX c s nx bad).2.2 = false) : inK c (readX c s nx bad).1 = true ∧ bad = false := by
 unfold readX at h ⊢
 split
 ·rename_i hf
  rw [if_pos hf] at h; cases h
 ·rename_i hf
  rw [if_neg hf] at h
  exact ⟨readN_in _ _ _, h⟩
theorem st_in (op : Nat) (s : List UInt8) (nx0 : Nat) : ∀ k, (stAt op s nx0 k).bad = false → ∀ i, i < k → inK ((wholeL op (stAt op s nx0 i).rows).getD i 0) ((stAt op s nx0 k).args.getD i 0) = true
 | 0, _, _, hi => absurd hi (Nat.not_lt_zero _)
 | k + 1, hb, i, hi => by
   have ih := st_in op s nx0 k
   have hl := st_len op s nx0 k
   have e : stAt op s nx0 (k + 1) = stepSt op s k (stAt op s nx0 k) := rfl
   rw [e] at hb ⊢
   generalize ht : stAt op s nx0 k = t at *
   obtain ⟨rows, nx, bad, args⟩ := t
   have key : ∀ (r2 : Nat) (n2 : Nat), bad = false → inK ((wholeL op rows).getD k 0) (readX ((wholeL op rows).getD k 0) s nx bad).1 = true →
    inK ((wholeL op (stAt op s nx0 i).rows).getD i 0) ((args ++ [(readX ((wholeL op rows).getD k 0) s nx bad).1]).getD i 0) = true := by
    intro _ _ hbad hin
    simp only at hl
    rcases Nat.lt_or_ge i k with h | h
    ·have h1 := ih hbad i h
     simp only at h1
     rw [List.getD_eq_getElem?_getD (l := args ++ _), List.getElem?_append_left (by omega), ← List.getD_eq_getElem?_getD (l := args)]
     exact h1
    ·obtain rfl : i = k := by omega
     rw [List.getD_eq_getElem?_getD (l := args ++ _), List.getElem?_append_right (by omega)]
     simp only [hl, Nat.sub_self, List.getElem?_cons_zero, Option.getD_some, ht]
     exact hin
   unfold stepSt at hb ⊢
   simp only at hb ⊢
   split at hb
   ·rename_i h60
    rw [if_pos h60]
    rw [read1_eq] at hb ⊢
    rw [readRows_eq] at hb ⊢
    simp only at hb ⊢
    obtain ⟨_, hb2⟩ := readX_in hb
    obtain ⟨h1, h2⟩ := readX_in hb2
    exact key 0 0 h2 h1
   ·rename_i h60
    rw [if_neg h60]
    rw [read1_eq] at hb ⊢
    simp only at hb ⊢
    obtain ⟨h1, h2⟩ := readX_in hb
    exact key 0 0 h2 h1
structure DecOk (s : List UInt8) (op : Nat) (ar : List Int) (nx : Int) : Prop where
 lt : op < 256
 there : thereB op = true
 len : op ≠ 60 → ar.length = (formL op).length
 len60 : op = 60 → 2 ≤ ar.length
 form : ∀ i, i < (formL op).length → inK ((formL op).getD i 0) (ar.getD i 0) = true
 wide : ∀ i, -32768 ≤ ar.getD i 0 ∧ ar.getD i 0 ≤ 65535
 short : ar.length ≤ 1000
 nx0 : 0 ≤ nx
 nx1 : nx ≤ s.length
theorem endRows_le (op : Nat) (s : List UInt8) (nx0 : Nat) : endRows op s nx0 ≤ 255 := by
 rw [← st_end op s nx0 0]
 exact st_rows op s nx0 _
theorem dec_ok {s : List UInt8} {a : Int} {op : Nat} {ar : List Int} {nx : Int} (h : decodeL s a = ((op, ar), nx, 0)) : DecOk s op ar nx := by
 unfold decodeL at h
 split at h
 ·simp at h
 ·rename_i hr
  split at h
  ·simp at h
  ·rename_i h2
   split at h
   ·simp at h
   ·rename_i h3
    simp only [Prod.mk.injEq] at h
    obtain ⟨⟨rfl, rfl⟩, rfl, _⟩ := h
    have hlt := (s.getD a.toNat 0).toNat_lt
    generalize (s.getD a.toNat 0).toNat = op at *
    have hb : (stAt op s (a.toNat + 1) (endAt op s (a.toNat + 1))).bad = false := by simpa using h3
    have hin := st_in op s (a.toNat + 1) _ hb
    have hl := st_len op s (a.toNat + 1) (endAt op s (a.toNat + 1))
    have hnx := st_nx op s (a.toNat + 1) (by omega) (endAt op s (a.toNat + 1))
    have he : endAt op s (a.toNat + 1) = (formL op).length + 3 * endRows op s (a.toNat + 1) := by unfold endAt; rw [whole_length]
    have hf := form_short op
    have hrw := endRows_le op s (a.toNat + 1)
    have h60 : op ≠ 60 → endRows op s (a.toNat + 1) = 0 := fun hne => by unfold endRows; rw [if_neg hne]
    generalize stAt op s (a.toNat + 1) (endAt op s (a.toNat + 1)) = t at *
    refine ⟨hlt, by simpa using h2, fun hne => by rw [hl, he, h60 hne]; omega, fun e => by rw [hl, he, e, form60]; simp, fun i hi => ?_, fun i => ?_, by omega, by omega, by omega⟩
    ·have := hin i (by omega)
     unfold wholeL at this
     rw [List.getD_eq_getElem?_getD (l := formL op ++ _), List.getElem?_append_left hi, ← List.getD_eq_getElem?_getD] at this
     exact this
    ·rcases Nat.lt_or_ge i (endAt op s (a.toNat + 1)) with h' | h'
     ·exact inK_wide (hin i h')
     ·rw [List.getD_eq_getElem?_getD, List.getElem?_eq_none (by omega)]
      simp
end Go.Proofs.YtabenhpjgjjgnaaGreatDoor.K16
