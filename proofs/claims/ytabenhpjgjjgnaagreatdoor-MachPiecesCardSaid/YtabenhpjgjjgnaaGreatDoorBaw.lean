/- A machine enters a procedure. A machine calls a procedure of the module that runs. A machine goes back to who called. A machine's function goes back with its word. The module that an instruction names. A procedure's number onto the stack. A machine loads a word of a module's data, as a closure. Condition: what lies in memory can lie there; what each theorem says. -/
import Derived.Test.YtabenhpjgjjgnaaGreatDoorBav
import Derived.Test.YtabenhpjgjjgnaaGreatDoorBai
import Derived.Deep.RegionHeld3
/- A machine enters a procedure. -/
namespace Go.Proofs.YtabenhpjgjjgnaaGreatDoor
open Go.RowKit
set_option maxRecDepth 100000
attribute [local go_sem ↓] Go.wp_at_zero Go.wp_at_succ
def procOf (K : MK) (m p : Int) : ProcL := (K.mods.getD m.toNat default).procs.getD p.toNat default
def enterAt (K : MK) (m p : Int) (S : St) : Int := S.sp - (procOf K m p).params - 5
def enterM (K : MK) (m p static : Int) (S : St) : St × Nat :=
 if enterAt K m p S < floorN K S then (S, 14)
 else if K.high < enterAt K m p S + baseN (procOf K m p) + (procOf K m p).depth then (S, 11)
 else (frameM K (enterAt K m p S) (procOf K m p).params static S.fp S.mod S.next S.proc { S with mod := m, proc := p }, 0)
set_option maxHeartbeats 4000000 in
theorem enter_any (K : MK) (k : KOk K) (S : St) (s : SOk K S) (m p static : Int) (hm0 : 0 ≤ m) (hm1 : m < K.mods.length) (hp0 : 0 ≤ p) (hp1 : p < (K.mods.getD m.toNat default).procs.length) (hd0 : -1000000000 ≤ S.depth) (hd1 : S.depth ≤ 1000000000) (W : World) (h : At K S W) :
 Calls Tryz.prog 150 #[.pointer (some ⟨K.b, 0, none⟩), .int .i64 m, .int .i64 p, .int .i64 static] W (OpEnd K W (enterM K m p static S)) := by
 have HK := Lib.hid k
 have HS := Lib.hid s
 have H := Lib.hid h
 have c1 := h.c1
 have hlt := h.lt
 have hpm : procOf K m p ∈ (K.mods.getD m.toNat default).procs := getD_mem' _ _ _ (by omega)
 have hmm : K.mods.getD m.toNat default ∈ K.mods := getD_mem' _ _ _ (by omega)
 obtain ⟨⟨q0, q1⟩, ⟨q2, q3⟩, ⟨q4, q5⟩, ⟨q6, q7⟩, ⟨q8, q9⟩, _⟩ := procOk k hmm hpm
 obtain ⟨⟨u0, u1⟩, ⟨u2, u3⟩, ⟨u4, u5⟩, ⟨u6, u7⟩, ⟨u8, u9⟩, _⟩ := hereOk k s.toROk
 have l1 := k.low1
 have l2 := s.fp1
 have l3 := s.sp0
 have l4 := s.sp1
 have l5 := s.top
 have l6 := k.high
 have l7 := k.n_le
 have HRk := Lib.hid (show ROk K { S with mod := m, proc := p } from ⟨hm0, hm1, hp0, by simpa [modOf] using hp1⟩)
 have HR0 := Lib.hid (show enterM K m p static S = if S.sp - (procOf K m p).params - 5 < S.fp + baseN (hereP K S) then (S, 14)
  else if K.high < S.sp - (procOf K m p).params - 5 + baseN (procOf K m p) + (procOf K m p).depth then (S, 11)
  else (frameM K (S.sp - (procOf K m p).params - 5) (procOf K m p).params static S.fp S.mod S.next S.proc { S with mod := m, proc := p }, 0) from rfl)
 obtain ⟨mb, mo, hmA, hmb, mt, hMI, _, kc, _⟩ := (h.mods.reads (mask_reads _ _)).at_ (j := m.toNat) (by omega)
 obtain ⟨pb, po, hpA, hpb, hP⟩ := hMI.procs.at_ (j := p.toNat) (by omega)
 have hP' : ProcAt W pb (po + p.toNat * 6) (procOf K m p) := hP
 clear hP hMI hpm hmm
 rw [hmA] at c1
 rw [hpA] at kc
 clear hmA hpA
 generalize (K.mods.getD m.toNat default).procs.length = npl at *
 generalize procOf K m p = pr at *
 obtain ⟨pa, pp, pl, pd, pv, pf⟩ := pr
 obtain ⟨r0, r1, r2, r3, r4, r5⟩ := hP'
 generalize hh : hereP K S = ph at *
 obtain ⟨ha, hpp, hl, hd, hv, hf⟩ := ph
 have HH := Lib.hid hh
 unfold baseN at HR0 l3 l4 l5
 simp only at q0 q1 q2 q3 q4 q5 q6 q7 q8 q9 u0 u1 u2 u3 u4 u5 u6 u7 u8 u9 HR0 r0 r1 r2 r3 r4 r5 l3 l4 l5
 clear h k s hh
 go_enter Tryz.func150, Tryz.ntmps150
 go_upto_region 2 with (fail)
 have HX1 := Lib.hid (Bx.new W #[.int .i64 pa, .int .i64 pp, .int .i64 pl, .int .i64 pd, .int .i64 pv, .bool pf] 113)
 have H1 := Lib.hid (H.out.grow (alloc_below W (.cells #[.int .i64 pa, .int .i64 pp, .int .i64 pl, .int .i64 pd, .int .i64 pv, .bool pf] 113)))
 have HO1 := Lib.hid (Only.of_below (bs := K.bs) (alloc_below W (.cells #[.int .i64 pa, .int .i64 pp, .int .i64 pl, .int .i64 pd, .int .i64 pv, .bool pf] 113)))
 have HNb := Lib.hid (show W.heap.size ≠ K.b from fun e => by omega)
 have HNs := Lib.hid (show W.heap.size ∉ K.bs from fun hm => by have := H.out.old _ hm; omega)
 clear c1 kc r0 r1 r2 r3 r4 r5 H
 generalize W.alloc (.cells #[.int .i64 pa, .int .i64 pp, .int .i64 pl, .int .i64 pd, .int .i64 pv, .bool pf] 113) = w1 at *
 generalize hg : W.heap.size = bp at *
 clear hg
 have k14 := H1.out.c14
 have s0 := H1.out.lt
 have s1 := HX1.out.lt
 obtain ⟨r0, r1, r2, r3, r4, r5⟩ := proc_cells HX1.out
 have e1 : IntKind.i64.wrap (S.sp - pp) = S.sp - pp := IntWalk.i64_in _ (by omega)
 have e2 : IntKind.i64.wrap (S.sp - pp - 5) = S.sp - pp - 5 := IntWalk.i64_in _ (by omega)
 refine wp_region_grow (by kernel_rfl) (by kernel_rfl) ?_
 repeat (first | go_big_quiet_step (fail))
 refine wpQuiet_nil ?_
 rintro _ ⟨gx, rfl⟩
 have H2 := Lib.hid (H1.out.grow (growN_below w1 gx))
 have HO2 := Lib.hid (HO1.out.trans (Only.of_below (bs := K.bs) (growN_below w1 gx)))
 have HX2 := Lib.hid (HX1.out.grow (growN_below w1 gx))
 clear H1 HO1 HX1 k14 s0 s1 r0 r1 r2 r3 r4 r5 e1 e2
 generalize growN w1 gx = w2 at *
 go_upto_region 3 with (fail)
 have HG := Lib.hid (show ∀ x, At K S (growN w2 x) from fun x => H2.out.grow (growN_below w2 x))
 have k13 := H2.out.c13
 have s0 := H2.out.lt
 have e1 : IntKind.i64.wrap (S.fp + (5 + hpp + hl)) = S.fp + (5 + hpp + hl) := IntWalk.i64_in _ (by omega)
 refine wp_region_grow (by kernel_rfl) (by kernel_rfl) ?_
 repeat (first | go_big_quiet_step (first
  | (go_at_call 123; refine quiet_grow (here_eq (HG.out _) HS.out.toROk HH.out))
  | (go_at_call 56; refine quiet_grow (base_eq (by omega) (by omega) (by omega) (by omega) rfl))))
 refine wpQuiet_nil ?_
 rintro _ ⟨gy, rfl⟩
 have H3 := Lib.hid (HG.out gy)
 have HO3 := Lib.hid (HO2.out.trans (Only.of_below (bs := K.bs) (growN_below w2 gy)))
 have HX3 := Lib.hid (HX2.out.grow (growN_below w2 gy))
 clear H2 HO2 HX2 k13 s0 e1 HG
 generalize growN w2 gy = w3 at *
 by_cases ht : S.sp - pp - 5 < S.fp + (5 + hpp + hl)
 ·have HR := Lib.hid (show enterM K m p static S = (S, 14) by rw [HR0.out, if_pos ht])
  have d0 := decide_eq_true ht
  go_wp2_with fail
  go_ret
  rw [HR.out]
  exact ⟨rfl, H3.out, HO3.out⟩
 have d0 : decide (S.sp - pp - 5 < S.fp + (5 + hpp + hl)) = false := decide_eq_false ht
 have HR1 := Lib.hid (show enterM K m p static S = if K.high < S.sp - pp - 5 + (5 + pp + pl) + pd then (S, 11) else (frameM K (S.sp - pp - 5) pp static S.fp S.mod S.next S.proc { S with mod := m, proc := p }, 0) by rw [HR0.out, if_neg ht])
 have hat : S.fp + (5 + hpp + hl) ≤ S.sp - pp - 5 := by omega
 clear HR0 ht
 go_upto_region 5 with (fail)
 clear d0
 have k8 := H3.out.c8
 have s0 := H3.out.lt
 have s1 := HX3.out.lt
 obtain ⟨r0, r1, r2, r3, r4, r5⟩ := proc_cells HX3.out
 have e1 : IntKind.i64.wrap (S.sp - pp - 5 + (5 + pp + pl)) = S.sp - pp - 5 + (5 + pp + pl) := IntWalk.i64_in _ (by omega)
 have e2 : IntKind.i64.wrap (S.sp - pp - 5 + (5 + pp + pl) + pd) = S.sp - pp - 5 + (5 + pp + pl) + pd := IntWalk.i64_in _ (by omega)
 refine wp_region_grow (by kernel_rfl) (by kernel_rfl) ?_
 repeat (first | go_big_quiet_step (first
  | (go_at_call 56; refine quiet_grow (base_eq (by omega) (by omega) (by omega) (by omega) rfl))))
 refine wpQuiet_nil ?_
 rintro _ ⟨gz, rfl⟩
 have H4 := Lib.hid (H3.out.grow (growN_below w3 gz))
 have HO4 := Lib.hid (HO3.out.trans (Only.of_below (bs := K.bs) (growN_below w3 gz)))
 have HX4 := Lib.hid (HX3.out.grow (growN_below w3 gz))
 clear H3 HO3 HX3 k8 s0 s1 r0 r1 r2 r3 r4 r5 e1 e2
 generalize growN w3 gz = w4 at *
 by_cases ht : K.high < S.sp - pp - 5 + (5 + pp + pl) + pd
 ·have HR := Lib.hid (show enterM K m p static S = (S, 11) by rw [HR1.out, if_pos ht])
  have d0 := decide_eq_true ht
  go_wp2_with fail
  go_ret
  rw [HR.out]
  exact ⟨rfl, H4.out, HO4.out⟩
 have d0 : decide (K.high < S.sp - pp - 5 + (5 + pp + pl) + pd) = false := decide_eq_false ht
 have HR := Lib.hid (show enterM K m p static S = (frameM K (S.sp - pp - 5) pp static S.fp S.mod S.next S.proc { S with mod := m, proc := p }, 0) by rw [HR1.out, if_neg ht])
 have hnt : S.sp - pp - 5 + (5 + pp + pl) + pd ≤ K.high := by omega
 clear HR1 ht
 go_wp2_with fail
 clear d0
 have k12 := H4.out.c13
 have k9 := H4.out.c10
 have k10 := H4.out.c11
 have k14 := H4.out.c15
 have s0 := H4.out.lt
 go_region_held3 (fun W' => W'.cell? ⟨K.b, 13, none⟩ = some (.int .i64 S.fp) ∧ W'.cell? ⟨K.b, 10, none⟩ = some (.int .i64 S.mod) ∧ W'.cell? ⟨K.b, 15, none⟩ = some (.int .i64 S.next) ∧ W'.cell? ⟨K.b, 11, none⟩ = some (.int .i64 S.proc)) (go_keep) (fail)
 have HBa := Lib.hid ((alloc_below w4 (.cells #[.int .i64 static, .int .i64 S.fp, .int .i64 S.mod, .int .i64 S.next, .int .i64 S.proc] 128)).trans ((drew_below (w4.alloc (.cells #[.int .i64 static, .int .i64 S.fp, .int .i64 S.mod, .int .i64 S.next, .int .i64 S.proc] 128))).mono (by simp)))
 have H5 := Lib.hid (H4.out.grow HBa.out)
 have HO5 := Lib.hid (HO4.out.trans (Only.of_below (bs := K.bs) HBa.out))
 have HX5 := Lib.hid (HX4.out.grow HBa.out)
 have HZ5 := Lib.hid ((Bx.new w4 #[.int .i64 static, .int .i64 S.fp, .int .i64 S.mod, .int .i64 S.next, .int .i64 S.proc] 128).grow (drew_below (w4.alloc (.cells #[.int .i64 static, .int .i64 S.fp, .int .i64 S.mod, .int .i64 S.next, .int .i64 S.proc] 128))))
 have hzb : w4.heap.size ≠ K.b := by omega
 have hzm : w4.heap.size ∉ K.bs := fun hm => by have := H4.out.old _ hm; omega
 clear H4 HO4 HX4 k12 k9 k10 k14 s0 HBa
 go_upto_region 8 with (fail)
 generalize (w4.alloc (.cells #[.int .i64 static, .int .i64 S.fp, .int .i64 S.mod, .int .i64 S.next, .int .i64 S.proc] 128)).drew = w5 at *
 generalize w4.heap.size = zp at *
 have k10 := H5.out.c10
 have k11 := H5.out.c11
 have fz := H5.out.fz
 have s0 := H5.out.lt
 have H6 := Lib.hid ((H5.out.set_mod HK.out m).set_proc HK.out p)
 have HO6 := Lib.hid ((HO5.out.setCell (a := ⟨K.b, 10, none⟩) HK.out.hb (.int .i64 m)).setCell (a := ⟨K.b, 11, none⟩) HK.out.hb (.int .i64 p))
 have HX6 := Lib.hid ((HX5.out.far (a := ⟨K.b, 10, none⟩) HNb.out (.int .i64 m)).far (a := ⟨K.b, 11, none⟩) HNb.out (.int .i64 p))
 have HZ6 := Lib.hid ((HZ5.out.far (a := ⟨K.b, 10, none⟩) hzb (.int .i64 m)).far (a := ⟨K.b, 11, none⟩) hzb (.int .i64 p))
 go_upto_region 9 with (fail)
 clear k10 k11 fz s0 H5 HO5 HX5 HZ5
 generalize (w5.setCell ⟨K.b, 10, none⟩ (.int .i64 m)).setCell ⟨K.b, 11, none⟩ (.int .i64 p) = w6 at *
 obtain ⟨r0, r1, r2, r3, r4, r5⟩ := proc_cells HX6.out
 have z0 : w6.cell? ⟨zp, 0, none⟩ = some (.int .i64 static) := (HZ6.out.cell 0).trans rfl
 have z1 : w6.cell? ⟨zp, 1, none⟩ = some (.int .i64 S.fp) := (HZ6.out.cell 1).trans rfl
 have z2 : w6.cell? ⟨zp, 2, none⟩ = some (.int .i64 S.mod) := (HZ6.out.cell 2).trans rfl
 have z3 : w6.cell? ⟨zp, 3, none⟩ = some (.int .i64 S.next) := (HZ6.out.cell 3).trans rfl
 have z4 : w6.cell? ⟨zp, 4, none⟩ = some (.int .i64 S.proc) := (HZ6.out.cell 4).trans rfl
 have s1 := HX6.out.lt
 have s2 := HZ6.out.lt
 go_wp2_with fail
 refine (frame_any K HK.out { S with mod := m, proc := p } HRk.out (S.sp - pp - 5) pp static S.fp S.mod S.next S.proc (by omega) (by omega) (by omega) (by omega) hd0 hd1 _ H6.out).mono ?_
 rintro e w7 ⟨rfl, h7, ho7⟩
 go_wp2_with fail
 go_ret
 rw [HR.out]
 exact ⟨rfl, h7, HO6.out.trans ho7⟩
end Go.Proofs.YtabenhpjgjjgnaaGreatDoor
/- A machine calls a procedure of the module that runs. -/
namespace Go.Proofs.YtabenhpjgjjgnaaGreatDoor
open Go.RowKit
set_option maxRecDepth 100000
attribute [local go_sem ↓] Go.wp_at_zero Go.wp_at_succ
def callM (K : MK) (S : St) : St × Nat :=
 if ((modOf K S).procs.length : Int) ≤ S.args.getD 1 0 then (S, 13)
 else if (procOf K S.mod (S.args.getD 1 0)).level ≠ (hereP K S).level + 1 - S.args.getD 0 0 then (S, 13)
 else if 1 < (procOf K S.mod (S.args.getD 1 0)).level then
  if (outM K (S.args.getD 0 0).toNat S).2 ≠ 0 then (S, (outM K (S.args.getD 0 0).toNat S).2) else enterM K S.mod (S.args.getD 1 0) (outM K (S.args.getD 0 0).toNat S).1 S
 else enterM K S.mod (S.args.getD 1 0) 0 S
theorem procs_yes (K : MK) (S : St) (m p : Int) (h0 : 0 ≤ m) (h1 : m < K.mods.length) (hp : p < (K.mods.getD m.toNat default).procs.length) (W : World) (h : At K S W) : Calls Tryz.prog 149 #[.pointer (some ⟨K.b, 0, none⟩), .int .i64 m, .int .i64 p] W (fun e w' => e = .returned (.bool true) ∧ Below W.heap.size W w') :=
 (procs_any K S m p h0 h1 W h).mono fun e w' ⟨he, hw⟩ => ⟨by rw [he, decide_eq_true hp], by rw [← hw]; exact Below.refl _ _⟩
theorem procs_no (K : MK) (S : St) (m p : Int) (h0 : 0 ≤ m) (h1 : m < K.mods.length) (hp : ¬ p < (K.mods.getD m.toNat default).procs.length) (W : World) (h : At K S W) : Calls Tryz.prog 149 #[.pointer (some ⟨K.b, 0, none⟩), .int .i64 m, .int .i64 p] W (fun e w' => e = .returned (.bool false) ∧ Below W.heap.size W w') :=
 (procs_any K S m p h0 h1 W h).mono fun e w' ⟨he, hw⟩ => ⟨by rw [he, decide_eq_false hp], by rw [← hw]; exact Below.refl _ _⟩
theorem level_cell {K : MK} {S : St} {W : World} (h : At K S W) (s : ROk K S) {p : Int} (hp0 : 0 ≤ p) (hp1 : p < (modOf K S).procs.length) : ∃ mb mo pb po pc, W.cell? ⟨K.b, 1, none⟩ = some (.slice (some ⟨mb, mo, none⟩) K.mods.length K.pc) ∧ mb < W.heap.size ∧ W.cell? ⟨mb, mo + S.mod.toNat * 5 + 1, none⟩ = some (.slice (some ⟨pb, po, none⟩) (modOf K S).procs.length pc) ∧ pb < W.heap.size ∧
 W.cell? ⟨pb, po + p.toNat * 6 + 4, none⟩ = some (.int .i64 (procOf K S.mod p).level) := by
 have hm := s.mod0
 have hm1 := s.mod1
 obtain ⟨mb, mo, hmA, hmb, mt, hMI, _, kc, _⟩ := (h.mods.reads (mask_reads _ _)).at_ (j := S.mod.toNat) (by omega)
 obtain ⟨pb, po, hpA, hpb, hP⟩ := hMI.procs.at_ (j := p.toNat) (by unfold modOf at hp1; omega)
 have c1 := h.c1
 rw [hmA] at c1
 rw [hpA] at kc
 obtain ⟨_, _, _, _, r4, _⟩ := hP
 exact ⟨mb, mo, pb, po, _, c1, hmb, kc, hpb, r4⟩
set_option maxHeartbeats 4000000 in
theorem call_any (K : MK) (k : KOk K) (S : St) (s : SOk K S) (ha : 1 < S.args.length) (hl0 : 0 ≤ S.args.getD 0 0) (hl1 : S.args.getD 0 0 ≤ 1000000) (hq0 : 0 ≤ S.args.getD 1 0) (_hq1 : S.args.getD 1 0 ≤ 1000000) (hd0 : -1000000000 ≤ S.depth) (hd1 : S.depth ≤ 1000000000) (W : World) (h : At K S W) :
 Calls Tryz.prog 85 #[.pointer (some ⟨K.b, 0, none⟩)] W (OpEnd K W (callM K S)) := by
 have HK := Lib.hid k
 have HS := Lib.hid s
 have H := Lib.hid h
 have m0 := s.mod0
 have m1 := s.mod1
 have hrv := (hereOk k s.toROk).2.2.2.2.1
 have HR0 := Lib.hid (show callM K S = if ((modOf K S).procs.length : Int) ≤ S.args.getD 1 0 then (S, 13)
  else if (procOf K S.mod (S.args.getD 1 0)).level ≠ (hereP K S).level + 1 - S.args.getD 0 0 then (S, 13)
  else if 1 < (procOf K S.mod (S.args.getD 1 0)).level then
   if (outM K (S.args.getD 0 0).toNat S).2 ≠ 0 then (S, (outM K (S.args.getD 0 0).toNat S).2) else enterM K S.mod (S.args.getD 1 0) (outM K (S.args.getD 0 0).toNat S).1 S
  else enterM K S.mod (S.args.getD 1 0) 0 S from rfl)
 obtain ⟨ab, ao, ac, c16, hab, a0c⟩ := h.arg (j := 0) (by omega)
 obtain ⟨ab', ao', ac', c16', hab', a1c⟩ := h.arg (j := 1) ha
 have e := c16.symm.trans c16'
 injection e with e
 injection e with e _ e2
 injection e with e
 injection e with e3 e4
 subst e3 e4
 simp only [Nat.add_zero] at a0c
 have hal : (1 : Int) < (S.args.length : Int) := by omega
 have hal0 : (0 : Int) < (S.args.length : Int) := by omega
 have hc10 := h.c10
 have hlt := h.lt
 generalize ha0 : S.args.getD 0 0 = l at *
 generalize ha1 : S.args.getD 1 0 = q at *
 clear h k s ha0 ha1 c16' hab' e2 ha
 go_enter Tryz.func85, Tryz.ntmps85
 go_wp2_with fail
 refine wp_region_grow (by kernel_rfl) (by kernel_rfl) ?_
 repeat (first | go_big_quiet_step (fail))
 refine wpQuiet_nil ?_
 rintro _ ⟨gx, rfl⟩
 have H1 := Lib.hid (H.out.grow (growN_below W gx))
 have HO1 := Lib.hid (Only.of_below (bs := K.bs) (growN_below W gx))
 clear H c16 hab a0c a1c hc10 hlt hal hal0
 generalize growN W gx = w1 at *
 have HG := Lib.hid (show ∀ x, At K S (growN w1 x) from fun x => H1.out.grow (growN_below w1 x))
 have k10 := H1.out.c10
 have s0 := H1.out.lt
 by_cases hq : ((modOf K S).procs.length : Int) ≤ q
 ·have HR := Lib.hid (show callM K S = (S, 13) by rw [HR0.out, if_pos hq])
  have HQ := Lib.hid (show ¬ q < (K.mods.getD S.mod.toNat default).procs.length from by unfold modOf at hq; omega)
  clear HR0 hq
  go_wp2_with fail
  refine wp_region_grow (by kernel_rfl) (by kernel_rfl) ?_
  repeat (first | go_big_quiet_step (fail))
  go_big_quiet_step ((go_at_call 149; refine quiet_grow (procs_no K S S.mod q m0 m1 (by have := HQ.out; omega) _ (HG.out _))))
  repeat (first | go_big_quiet_step (fail))
  refine wpQuiet_nil ?_
  rintro _ ⟨gy, rfl⟩
  go_wp2_with fail
  go_ret
  rw [HR.out]
  exact ⟨rfl, HG.out gy, HO1.out.trans (Only.of_below (bs := K.bs) (growN_below w1 gy))⟩
 have HQ := Lib.hid (show q < (K.mods.getD S.mod.toNat default).procs.length from by unfold modOf at hq; omega)
 obtain ⟨mb, mo, pb, po, pc, c1, hmb, kc, hpb, r4⟩ := level_cell H1.out HS.out.toROk hq0 (show q < (modOf K S).procs.length by omega)
 have HR1 := Lib.hid (show callM K S = if (procOf K S.mod q).level ≠ (hereP K S).level + 1 - l then (S, 13)
  else if 1 < (procOf K S.mod q).level then
   if (outM K l.toNat S).2 ≠ 0 then (S, (outM K l.toNat S).2) else enterM K S.mod q (outM K l.toNat S).1 S
  else enterM K S.mod q 0 S by rw [HR0.out, if_neg hq])
 have hqn : q < ((modOf K S).procs.length : Int) := by omega
 clear HR0 hq
 generalize (modOf K S).procs.length = npl at *
 generalize hpl : (procOf K S.mod q).level = plv at *
 have HPL := Lib.hid hpl
 clear hpl
 generalize hh : hereP K S = ph at *
 obtain ⟨ha, hpp, hl, hd, hv, hf⟩ := ph
 have HH := Lib.hid hh
 clear hh
 simp only at hrv HR1
 obtain ⟨v0, v1⟩ := hrv
 have fld : ∀ w, (Instr.field 113 (.agg #[.int .i64 ha, .int .i64 hpp, .int .i64 hl, .int .i64 hd, .int .i64 hv, .bool hf]) 4).run Tryz.prog w = .ok (.int .i64 hv) w := fun _ => by kernel_rfl
 have e1 : IntKind.i64.wrap (hv + 1) = hv + 1 := IntWalk.i64_in _ (by omega)
 have e2 : IntKind.i64.wrap (hv + 1 - l) = hv + 1 - l := IntWalk.i64_in _ (by omega)
 go_wp2_with fail
 refine wp_region_grow (by kernel_rfl) (by kernel_rfl) ?_
 repeat (first | go_big_quiet_step (first
  | (go_at_call 149; refine quiet_grow (procs_yes K S S.mod q m0 m1 (by have := HQ.out; omega) _ (HG.out _)))
  | (go_at_call 123; refine quiet_grow (here_eq (HG.out _) HS.out.toROk HH.out))))
 refine wpQuiet_nil ?_
 rintro _ ⟨gy, rfl⟩
 have H2 := Lib.hid (HG.out gy)
 have HO2 := Lib.hid (HO1.out.trans (Only.of_below (bs := K.bs) (growN_below w1 gy)))
 clear H1 HO1 HG k10 s0 c1 hmb kc hpb r4 fld e1 e2
 generalize growN w1 gy = w2 at *
 by_cases hv1' : plv = hv + 1 - l
 rotate_left 1
 ·have HR := Lib.hid (show callM K S = (S, 13) by rw [HR1.out, if_pos hv1'])
  have d0 := bne_iff_ne.2 hv1'
  go_wp2_with fail
  go_ret
  rw [HR.out]
  exact ⟨rfl, H2.out, HO2.out⟩
 have HR2 := Lib.hid (show callM K S = if 1 < plv then
  if (outM K l.toNat S).2 ≠ 0 then (S, (outM K l.toNat S).2) else enterM K S.mod q (outM K l.toNat S).1 S
  else enterM K S.mod q 0 S by rw [HR1.out, if_neg (by simpa using hv1')])
 have HV := Lib.hid hv1'
 have d0 : (plv != hv + 1 - l) = false := by rw [hv1']; simp
 clear HR1 hv1'
 go_upto_region 5 with (fail)
 clear d0
 have k10 := H2.out.c10
 have s0 := H2.out.lt
 obtain ⟨mb, mo, pb, po, pc, c1, hmb, kc, hpb, r4⟩ := level_cell H2.out HS.out.toROk hq0 (show q < (modOf K S).procs.length from by have := HQ.out; unfold modOf; omega)
 rw [HPL.out] at r4
 have hqn2 : q < ((modOf K S).procs.length : Int) := by have := HQ.out; unfold modOf; omega
 generalize (modOf K S).procs.length = npl2 at *
 refine wp_region_grow (by kernel_rfl) (by kernel_rfl) ?_
 repeat (first | go_big_quiet_step (fail))
 refine wpQuiet_nil ?_
 rintro _ ⟨gz, rfl⟩
 have H3 := Lib.hid (H2.out.grow (growN_below w2 gz))
 have HO3 := Lib.hid (HO2.out.trans (Only.of_below (bs := K.bs) (growN_below w2 gz)))
 clear H2 HO2 k10 s0 c1 hmb kc hpb r4
 generalize growN w2 gz = w3 at *
 have k10 := H3.out.c10
 have s0 := H3.out.lt
 by_cases hlv : 1 < plv
 ·have HR3 := Lib.hid (show callM K S = if (outM K l.toNat S).2 ≠ 0 then (S, (outM K l.toNat S).2) else enterM K S.mod q (outM K l.toNat S).1 S by rw [HR2.out, if_pos hlv])
  clear HR2
  obtain ⟨ln, rfl⟩ := Int.eq_ofNat_of_zero_le hl0
  go_wp2_with fail
  refine (out_frame K HK.out S HS.out ln (by omega) _ H3.out).mono ?_
  rintro e w4 ⟨rfl, hb4⟩
  have H4 := Lib.hid (H3.out.grow hb4)
  have HO4 := Lib.hid (HO3.out.trans (Only.of_below (bs := K.bs) hb4))
  clear hb4 H3 HO3 k10 s0
  rw [Int.toNat_natCast] at HR3
  generalize outM K ln S = r at *
  obtain ⟨st, t⟩ := r
  simp only at HR3
  have k10 := H4.out.c10
  have s0 := H4.out.lt
  by_cases ht : t = 0
  ·subst ht
   have HR := Lib.hid (show callM K S = enterM K S.mod q st S by rw [HR3.out, if_neg (by simp)])
   clear HR3
   go_wp2_with fail
   refine (enter_any K HK.out S HS.out S.mod q st m0 m1 hq0 (by have := HQ.out; omega) hd0 hd1 _ H4.out).mono ?_
   rintro e w5 ⟨rfl, h5, ho5⟩
   go_wp2_with fail
   go_ret
   rw [HR.out]
   exact ⟨rfl, h5, HO4.out.trans ho5⟩
  ·have d := bne_iff_ne.2 (show (t : Int) ≠ 0 by omega)
   have HR := Lib.hid (show callM K S = (S, t) by rw [HR3.out, if_pos (by simpa using ht)])
   clear HR3
   go_wp2_with fail
   go_ret
   rw [HR.out]
   exact ⟨rfl, H4.out, HO4.out⟩
 ·have hlv' : plv ≤ 1 := by omega
  have HR := Lib.hid (show callM K S = enterM K S.mod q 0 S by rw [HR2.out, if_neg hlv])
  clear HR2 hlv
  go_wp2_with fail
  refine (enter_any K HK.out S HS.out S.mod q 0 m0 m1 hq0 (by have := HQ.out; omega) hd0 hd1 _ H3.out).mono ?_
  rintro e w5 ⟨rfl, h5, ho5⟩
  go_wp2_with fail
  go_ret
  rw [HR.out]
  exact ⟨rfl, h5, HO3.out.trans ho5⟩
end Go.Proofs.YtabenhpjgjjgnaaGreatDoor
/- A machine goes back to who called. -/
namespace Go.Proofs.YtabenhpjgjjgnaaGreatDoor
open Go.RowKit
set_option maxRecDepth 100000
attribute [local go_sem ↓] Go.wp_at_zero Go.wp_at_succ
theorem mod_cells {K : MK} {S : St} {W : World} (h : At K S W) {m p : Nat} (hm : m < K.mods.length) (hp : p < (K.mods.getD m default).procs.length) : ∃ mb mo pb po pc, W.cell? ⟨K.b, 1, none⟩ = some (.slice (some ⟨mb, mo, none⟩) K.mods.length K.pc) ∧ mb < W.heap.size ∧ W.cell? ⟨mb, mo + m * 5, none⟩ = some (.string ⟨(K.mods.getD m default).code.toArray⟩) ∧
 W.cell? ⟨mb, mo + m * 5 + 1, none⟩ = some (.slice (some ⟨pb, po, none⟩) (K.mods.getD m default).procs.length pc) ∧ pb < W.heap.size ∧ ProcAt W pb (po + p * 6) ((K.mods.getD m default).procs.getD p default) := by
 obtain ⟨mb, mo, hmA, hmb, mt, hMI, ks, kc, _⟩ := (h.mods.reads (mask_reads _ _)).at_ hm
 obtain ⟨pb, po, hpA, hpb, hP⟩ := hMI.procs.at_ hp
 have c1 := h.c1
 rw [hmA] at c1
 rw [hpA] at kc
 exact ⟨mb, mo, pb, po, _, c1, hmb, ks, kc, hpb, hP⟩
def backM (S : St) : St := { S with sp := S.fp, fp := S.ws (S.fp.toNat - 1 + 1), mod := S.ws (S.fp.toNat - 1 + 2), proc := S.ws (S.fp.toNat - 1 + 4), next := S.ws (S.fp.toNat - 1 + 3), depth := S.depth - 1 }
end Go.Proofs.YtabenhpjgjjgnaaGreatDoor
/- A machine's function goes back with its word. -/
namespace Go.Proofs.YtabenhpjgjjgnaaGreatDoor
open Go.RowKit
set_option maxRecDepth 100000
attribute [local go_sem ↓] Go.wp_at_zero Go.wp_at_succ
theorem retf_first (q t : Nat) (W : World) (hq : W.cell? ⟨q, 0, none⟩ = some (.int .u8 t)) : Calls Tryz.prog 152 #[.pointer (some ⟨q, 0, none⟩)] W (fun e w' => e = .returned (.int .u8 t) ∧ W = w') := by
 go_enter Tryz.func152, Tryz.ntmps152
 go_wp2_with fail
 go_ret
 exact ⟨rfl, rfl⟩
theorem retf_third (K : MK) (k : KOk K) (S : St) (s : SOk K S) (W : World) (h : At K S W) (x q b o c y : Nat) (hy : y < 65536) (cx : W.cell? ⟨x, 0, none⟩ = some (.pointer (some ⟨K.b, 0, none⟩))) (cq : W.cell? ⟨q, 0, none⟩ = some (.slice (some ⟨b, o, none⟩) 1 c)) (cb : W.cell? ⟨b, o, none⟩ = some (.int .u16 y)) :
 Calls Tryz.prog 154 #[.pointer (some ⟨x, 0, none⟩), .pointer (some ⟨q, 0, none⟩)] W (OpEnd K W (pushM K y S)) := by
 have H := Lib.hid (h.grow (drew_below W))
 have HO := Lib.hid (Only.of_below (bs := K.bs) (drew_below W))
 have dx := ((drew_below W).cell (p := ⟨x, 0, none⟩) (lt_of_cell cx)).trans cx
 have dq := ((drew_below W).cell (p := ⟨q, 0, none⟩) (lt_of_cell cq)).trans cq
 have db := ((drew_below W).cell (p := ⟨b, o, none⟩) (lt_of_cell cb)).trans cb
 clear h cx cq cb
 go_enter Tryz.func154, Tryz.ntmps154
 go_wp2_with fail
 refine wp_region_tail 4 (by kernel_rfl) (by kernel_rfl) ?_
 generalize W.drew = wd at *
 simp only [List.take_succ_cons, List.take_zero, List.drop_succ_cons, List.drop_zero]
 repeat still_step
 refine wpStill_nil ?_
 go_wp2_with fail
 refine (push_any K k S s y hy wd H.out).mono ?_
 rintro e w5 ⟨rfl, h5, ho5⟩
 go_wp2_with fail
 go_ret
 exact ⟨rfl, h5, HO.out.trans ho5⟩
end Go.Proofs.YtabenhpjgjjgnaaGreatDoor
/- The module that an instruction names. -/
namespace Go.Proofs.YtabenhpjgjjgnaaGreatDoor
open Go.RowKit
set_option maxRecDepth 100000
attribute [local go_sem ↓] Go.wp_at_zero Go.wp_at_succ
def moduleL (mod : Int) (l : List Int) (k : Int) : Int × Nat := if k = 0 then (mod, 0) else if k ≤ l.length then (l.getD (k.toNat - 1) 0, 0) else (0, 13)
def moduleM (K : MK) (S : St) : Int × Nat := moduleL S.mod (modOf K S).imports (S.args.getD 0 0)
theorem import_cells {K : MK} {S : St} {W : World} (h : At K S W) (s : ROk K S) : ∃ b o iA ic, K.pA = some ⟨b, o, none⟩ ∧ W.cell? ⟨b, o + S.mod.toNat * 5 + 2, none⟩ = some (.slice iA (modOf K S).imports.length ic) ∧ Ints W iA (modOf K S).imports ∧ b < W.heap.size ∧ (modOf K S).imports.length ≤ 140737488355328 := by
 have hm := s.mod0
 have hm1 := s.mod1
 obtain ⟨b, o, e, hb, t, hI, _, _, c2, _⟩ := (h.mods.reads (mask_reads _ _)).at_ (j := S.mod.toNat) (by omega)
 exact ⟨b, o, t.A2, t.c2, e, c2, hI.imports, hb, hI.imports_le⟩
theorem module7_any (K : MK) (k : KOk K) (S : St) (s : SOk K S) (ha : 0 < S.args.length) (hq0 : 0 ≤ S.args.getD 0 0) (hq1 : S.args.getD 0 0 ≤ 1000000) (W : World) (h : At K S W) :
 Calls Tryz.prog 133 #[.pointer (some ⟨K.b, 0, none⟩)] W (OutEnd W (moduleM K S)) := by
 have HR := Lib.hid (show moduleM K S = moduleL S.mod (modOf K S).imports (S.args.getD 0 0) from rfl)
 have H2 := Lib.hid (h.grow (drew_below W))
 have HB2 := Lib.hid (drew_below W)
 have m0 := s.mod0
 have m1 := s.mod1
 have m2 := k.mods_le
 obtain ⟨b, o, iA, ic, e, c2, hI, hb, hle⟩ := import_cells H2.out s.toROk
 have HI2 := Lib.hid hI
 have c1 := H2.out.c1
 rw [e] at c1
 have c10 := H2.out.c10
 have hlt := H2.out.lt
 have HAL := Lib.hid ha
 generalize (modOf K S).imports = l at *
 clear h k s hI e ha
 go_enter Tryz.func133, Tryz.ntmps133
 go_wp2_with fail
 refine wp_region_tail 12 (by kernel_rfl) (by kernel_rfl) ?_
 generalize W.drew = w2 at *
 simp only [List.take_succ_cons, List.take_zero, List.drop_succ_cons, List.drop_zero]
 repeat still_step
 refine wpStill_nil ?_
 clear c1 c2 hb
 obtain ⟨ab, ao, ac, c16, hab, a0c⟩ := H2.out.arg (j := 0) HAL.out
 simp only [Nat.add_zero] at a0c
 have hal : 0 < S.args.length := HAL.out
 generalize S.args.getD 0 0 = q at *
 by_cases hq : q = 0
 ·subst hq
  have HX := Lib.hid (show moduleM K S = (S.mod, 0) by rw [HR.out, moduleL, if_pos rfl])
  go_wp2_with fail
  go_ret2
  rw [HX.out]
  exact ⟨rfl, HB2.out⟩
 ·by_cases hl : q ≤ l.length
  ·have HX := Lib.hid (show moduleM K S = (l.getD (q.toNat - 1) 0, 0) by rw [HR.out, moduleL, if_neg hq, if_pos hl])
   have hq2 : 1 ≤ q := by omega
   have hj0 : 0 ≤ q - 1 := by omega
   have hj1 : q - 1 < l.length := by omega
   obtain ⟨ib, io, rfl, hib, hic⟩ := HI2.out.at_ (j := q.toNat - 1) (by omega)
   have d1 : decide (q ≤ (l.length : Int)) = true := decide_eq_true hl
   have d := beq_eq_false_iff_ne.2 hq
   simp only [Nat.mul_one] at hic
   go_wp2_with fail
   go_ret2
   rw [HX.out]
   exact ⟨rfl, HB2.out⟩
  ·have HX := Lib.hid (show moduleM K S = (0, 13) by rw [HR.out, moduleL, if_neg hq, if_neg hl])
   have d1 : decide (q ≤ (l.length : Int)) = false := decide_eq_false hl
   have d := beq_eq_false_iff_ne.2 hq
   go_wp2_with fail
   go_ret2
   rw [HX.out]
   exact ⟨rfl, HB2.out⟩
end Go.Proofs.YtabenhpjgjjgnaaGreatDoor
/- A procedure's number onto the stack. -/
namespace Go.Proofs.YtabenhpjgjjgnaaGreatDoor
open Go.RowKit
set_option maxRecDepth 100000
attribute [local go_sem ↓] Go.wp_at_zero Go.wp_at_succ
theorem module_in (K : MK) (k : KOk K) (S : St) (s : ROk K S) (hq0 : 0 ≤ S.args.getD 0 0) (h : (moduleM K S).2 = 0) : 0 ≤ (moduleM K S).1 ∧ (moduleM K S).1 < K.mods.length := by
 unfold moduleM moduleL at h ⊢
 have m0 := s.mod0
 have m1 := s.mod1
 split
 ·exact ⟨m0, m1⟩
 ·rename_i hne
  rw [if_neg hne] at h
  split
  ·rename_i hle
   have hk := k.may
   unfold checkB at hk
   simp only [Bool.and_eq_true] at hk
   have hm : modOf K S ∈ K.mods := by
    unfold modOf
    rw [List.getD_eq_getElem?_getD, List.getElem?_eq_getElem (by omega), Option.getD_some]
    exact List.getElem_mem _
   have h1 := List.all_eq_true.1 hk.1.1.2 _ hm
   unfold modB at h1
   simp only [Bool.and_eq_true] at h1
   have h2 := h1.1.2
   have hj : (S.args.getD 0 0).toNat - 1 < (modOf K S).imports.length := by omega
   have h3 := List.all_eq_true.1 h2 ((modOf K S).imports.getD ((S.args.getD 0 0).toNat - 1) 0) (by
    rw [List.getD_eq_getElem?_getD, List.getElem?_eq_getElem hj, Option.getD_some]
    exact List.getElem_mem _)
   unfold withinB at h3
   simp only [Bool.and_eq_true, decide_eq_true_eq] at h3
   dsimp only
   omega
  ·rename_i hle
   rw [if_neg hle] at h
   exact absurd h (by decide)
def numberR (K : MK) (r : Int × Nat) (S : St) : St × Nat :=
 if r.2 ≠ 0 then (S, r.2) else if S.args.getD 1 0 < (K.mods.getD r.1.toNat default).procs.length then addressM K (K.first.getD r.1.toNat 0 + S.args.getD 1 0) S else (S, 13)
def numberM (K : MK) (S : St) : St × Nat := numberR K (moduleM K S) S
theorem number7_any (K : MK) (k : KOk K) (hF : K.first.length = K.mods.length) (hFr : ∀ j, 0 ≤ K.first.getD j 0 ∧ K.first.getD j 0 ≤ 1000000) (S : St) (s : SOk K S) (ha : 1 < S.args.length) (hq0 : 0 ≤ S.args.getD 0 0) (hq1 : S.args.getD 0 0 ≤ 1000000) (hp0 : 0 ≤ S.args.getD 1 0) (hp1 : S.args.getD 1 0 ≤ 1000000) (W : World) (h : At K S W) :
 Calls Tryz.prog 90 #[.pointer (some ⟨K.b, 0, none⟩)] W (OpEnd K W (numberM K S)) := by
 have HP := Lib.hid (show numberM K S = numberR K (moduleM K S) S from rfl)
 have HI := Lib.hid (module_in K k S s.toROk hq0)
 have HC := Lib.hid (module7_any K k S s (by omega) hq0 hq1 W h)
 have H := Lib.hid h
 have HAL := Lib.hid ha
 have HML := Lib.hid k.mods_le
 clear h ha
 generalize moduleM K S = r at *
 obtain ⟨m, t⟩ := r
 have HI := Lib.hid (show t = 0 → 0 ≤ m ∧ m < K.mods.length from HI.out)
 go_enter Tryz.func90, Tryz.ntmps90
 go_wp2_with fail
 refine (HC.out).mono ?_
 rintro e w1 ⟨rfl, hb1⟩
 have H1 := Lib.hid (H.out.grow hb1)
 have HO1 := Lib.hid (Only.of_below (bs := K.bs) hb1)
 clear hb1 H HC
 dsimp only
 by_cases ht : t = 0
 ·subst ht
  obtain ⟨g0, g1⟩ := HI.out rfl
  have HX := Lib.hid (show numberM K S = if S.args.getD 1 0 < (K.mods.getD m.toNat default).procs.length then addressM K (K.first.getD m.toNat 0 + S.args.getD 1 0) S else (S, 13) by rw [HP.out, numberR, if_neg (by simp)])
  have HPC := Lib.hid (procs_any K S m (S.args.getD 1 0) g0 g1 w1 H1.out)
  obtain ⟨ab, ao, ac, c16, hab, a1c⟩ := H1.out.arg (j := 1) HAL.out
  have hal : 1 < S.args.length := HAL.out
  have hlt := H1.out.lt
  clear HP HI
  generalize ha1 : S.args.getD 1 0 = p at *
  generalize (K.mods.getD m.toNat default).procs.length = np at *
  go_wp2_with fail
  refine (HPC.out).mono ?_
  rintro e w2 ⟨rfl, rfl⟩
  by_cases hp : p < np
  ·have HR := Lib.hid (show numberM K S = addressM K (K.first.getD m.toNat 0 + p) S by rw [HX.out, if_pos hp])
   rw [decide_eq_true hp]
   go_wp2_with fail
   refine wp_region_tail 15 (by kernel_rfl) (by kernel_rfl) ?_
   have H2 := Lib.hid (H1.out.grow (drew_below w1))
   have HO2 := Lib.hid (HO1.out.trans (Only.of_below (drew_below w1)))
   clear c16 hab a1c hlt H1 HO1 HPC HX
   generalize w1.drew = w2 at *
   obtain ⟨ab, ao, ac, c16, hab, a1c⟩ := H2.out.arg (j := 1) HAL.out
   rw [ha1] at a1c
   have hlt := H2.out.lt
   have c6 := H2.out.c6
   obtain ⟨fb, fo, hfe, hfb, hfc⟩ := (H2.out.first.reads (mask_reads _ _)).at_ (j := m.toNat) (by omega)
   rw [hfe] at c6
   obtain ⟨f0, f1⟩ := hFr m.toNat
   have hfl : m < K.first.length := by omega
   simp only [Nat.mul_one] at hfc
   generalize K.first.getD m.toNat 0 = f at *
   have hal1 : (1 : Int) < (S.args.length : Int) := by have := HAL.out; omega
   simp only [List.take_succ_cons, List.take_zero, List.drop_succ_cons, List.drop_zero]
   repeat still_step
   refine wpStill_nil ?_
   go_wp2_with fail
   refine (address_any K k S s (f + p) _ H2.out).mono ?_
   rintro e w5 ⟨rfl, h5, ho5⟩
   go_wp2_with fail
   go_ret
   rw [HR.out]
   exact ⟨rfl, h5, HO2.out.trans ho5⟩
  ·have HR := Lib.hid (show numberM K S = (S, 13) by rw [HX.out, if_neg hp])
   rw [decide_eq_false hp]
   go_wp2_with fail
   go_ret
   rw [HR.out]
   exact ⟨rfl, H1.out, HO1.out⟩
 ·have d := bne_iff_ne.2 (show (t : Int) ≠ 0 by omega)
  have HR := Lib.hid (show numberM K S = (S, t) by rw [HP.out, numberR, if_pos (by simpa using ht)])
  go_wp2_with fail
  go_ret
  rw [HR.out]
  exact ⟨rfl, H1.out, HO1.out⟩
end Go.Proofs.YtabenhpjgjjgnaaGreatDoor
/- A machine loads a word of a module's data, as a closure. -/
namespace Go.Proofs.YtabenhpjgjjgnaaGreatDoor
open Go.RowKit
set_option maxRecDepth 100000
attribute [local go_sem ↓] Go.wp_at_zero Go.wp_at_succ
def globalR (K : MK) (r : Int × Nat) (doF : Int → St → St × Nat) (S : St) : St × Nat :=
 if r.2 ≠ 0 then (S, r.2) else if (K.mods.getD r.1.toNat default).data ≤ S.args.getD 1 0 then (S, 15) else doF (K.data.getD r.1.toNat 0 + S.args.getD 1 0) S
def globalM (K : MK) (doF : Int → St → St × Nat) (S : St) : St × Nat := globalR K (moduleM K S) doF S
theorem data_cell {K : MK} {S : St} {W : World} (h : At K S W) {m : Nat} (hm : m < K.mods.length) : ∃ mb mo, W.cell? ⟨K.b, 1, none⟩ = some (.slice (some ⟨mb, mo, none⟩) K.mods.length K.pc) ∧ mb < W.heap.size ∧ W.cell? ⟨mb, mo + m * 5 + 3, none⟩ = some (.int .i64 (K.mods.getD m default).data) := by
 obtain ⟨mb, mo, hmA, hmb, mt, hMI, _, _, _, kd, _⟩ := (h.mods.reads (mask_reads _ _)).at_ hm
 have c1 := h.c1
 rw [hmA] at c1
 exact ⟨mb, mo, c1, hmb, kd⟩
set_option maxHeartbeats 2000000 in
theorem globalLoads_any (K : MK) (k : KOk K) (hF : K.data.length = K.mods.length) (hFr : ∀ j, 0 ≤ K.data.getD j 0 ∧ K.data.getD j 0 ≤ 1000000) (S : St) (s : SOk K S) (ha : 1 < S.args.length) (hq0 : 0 ≤ S.args.getD 0 0) (hq1 : S.args.getD 0 0 ≤ 1000000) (hp0 : 0 ≤ S.args.getD 1 0) (hp1 : S.args.getD 1 0 ≤ 1000000) (W : World) (h : At K S W) (x y : Nat) (_hx : x ∉ K.bs) (_hy : y ∉ K.bs)
 (cx : W.cell? ⟨x, 0, none⟩ = some (.pointer (some ⟨K.b, 0, none⟩))) (cy : W.cell? ⟨y, 0, none⟩ = some (.func (.func 68) #[.pointer (some ⟨K.b, 0, none⟩)] #[])) :
 Calls Tryz.prog 132 #[.pointer (some ⟨x, 0, none⟩), .pointer (some ⟨y, 0, none⟩)] W (OpEnd K W (globalM K (loadsM K) S)) := by
 have HP := Lib.hid (show globalM K (loadsM K) S = globalR K (moduleM K S) (loadsM K) S from rfl)
 have HI := Lib.hid (module_in K k S s.toROk hq0)
 have HC := Lib.hid (module7_any K k S s (by omega) hq0 hq1 W h)
 have H := Lib.hid h
 have HAL := Lib.hid ha
 have HML := Lib.hid k.mods_le
 have DX := Lib.hid cx
 have DY := Lib.hid cy
 clear h ha cy
 generalize moduleM K S = r at *
 obtain ⟨m, t⟩ := r
 have HI := Lib.hid (show t = 0 → 0 ≤ m ∧ m < K.mods.length from HI.out)
 go_enter Tryz.func132, Tryz.ntmps132
 go_wp2_with fail
 refine (HC.out).mono ?_
 rintro e w1 ⟨rfl, hb1⟩
 have H1 := Lib.hid (H.out.grow hb1)
 have HO1 := Lib.hid (Only.of_below (bs := K.bs) hb1)
 have DX1 := Lib.hid ((hb1.cell (p := ⟨x, 0, none⟩) (lt_of_cell DX.out)).trans DX.out)
 have DY1 := Lib.hid ((hb1.cell (p := ⟨y, 0, none⟩) (lt_of_cell DY.out)).trans DY.out)
 clear hb1 H HC DX DY cx
 dsimp only
 by_cases ht : t = 0
 ·subst ht
  obtain ⟨g0, g1⟩ := HI.out rfl
  have HX := Lib.hid (show globalM K (loadsM K) S = if (K.mods.getD m.toNat default).data ≤ S.args.getD 1 0 then (S, 15) else loadsM K (K.data.getD m.toNat 0 + S.args.getD 1 0) S by rw [HP.out, globalR, if_neg (by simp)])
  obtain ⟨ab, ao, ac, c16, hab, a1c⟩ := H1.out.arg (j := 1) HAL.out
  have hal : 1 < S.args.length := HAL.out
  have hlt := H1.out.lt
  obtain ⟨mb, mo, c1, hmb, kd⟩ := data_cell H1.out (m := m.toNat) (by omega)
  have dx := DX1.out
  have dxl := lt_of_cell dx
  simp only at dxl
  clear HP HI
  generalize ha1 : S.args.getD 1 0 = p at *
  generalize (K.mods.getD m.toNat default).data = np at *
  go_wp2_with fail
  refine wp_region_grow (by kernel_rfl) (by kernel_rfl) ?_
  repeat (first | go_big_quiet_step (fail))
  refine wpQuiet_nil ?_
  rintro _ ⟨gx, rfl⟩
  have H2 := Lib.hid (H1.out.grow (growN_below w1 gx))
  have HO2 := Lib.hid (HO1.out.trans (Only.of_below (growN_below w1 gx)))
  have DX2 := Lib.hid (((growN_below w1 gx).cell (p := ⟨x, 0, none⟩) dxl).trans DX1.out)
  have DY2 := Lib.hid (((growN_below w1 gx).cell (p := ⟨y, 0, none⟩) (lt_of_cell DY1.out)).trans DY1.out)
  clear c16 hab a1c hlt H1 HO1 c1 hmb kd dx dxl DX1 DY1
  generalize growN w1 gx = w2 at *
  by_cases hp : np ≤ p
  ·have HR := Lib.hid (show globalM K (loadsM K) S = (S, 15) by rw [HX.out, if_pos hp])
   have d0 := decide_eq_true hp
   go_wp2_with fail
   go_ret
   rw [HR.out]
   exact ⟨rfl, H2.out, HO2.out⟩
  ·have HR := Lib.hid (show globalM K (loadsM K) S = loadsM K (K.data.getD m.toNat 0 + p) S by rw [HX.out, if_neg hp])
   have d0 : decide (np ≤ p) = false := decide_eq_false hp
   have hp' : p < np := by omega
   clear hp HX
   go_wp2_with fail
   refine wp_region_tail 15 (by kernel_rfl) (by kernel_rfl) ?_
   have dx := ((drew_below w2).cell (p := ⟨x, 0, none⟩) (lt_of_cell DX2.out)).trans DX2.out
   have dy := ((drew_below w2).cell (p := ⟨y, 0, none⟩) (lt_of_cell DY2.out)).trans DY2.out
   have H3 := Lib.hid (H2.out.grow (drew_below w2))
   have HO3 := Lib.hid (HO2.out.trans (Only.of_below (drew_below w2)))
   clear H2 HO2 DX2 DY2 d0
   generalize w2.drew = w3 at *
   obtain ⟨ab, ao, ac, c16, hab, a1c⟩ := H3.out.arg (j := 1) HAL.out
   rw [ha1] at a1c
   have hlt := H3.out.lt
   have c5 := H3.out.c5
   obtain ⟨fb, fo, hfe, hfb, hfc⟩ := (H3.out.data.reads (mask_reads _ _)).at_ (j := m.toNat) (by omega)
   rw [hfe] at c5
   obtain ⟨f0, f1⟩ := hFr m.toNat
   have hfl : m < K.data.length := by omega
   simp only [Nat.mul_one] at hfc
   generalize K.data.getD m.toNat 0 = f at *
   have hal1 : (1 : Int) < (S.args.length : Int) := by have := HAL.out; omega
   simp only [List.take_succ_cons, List.take_zero, List.drop_succ_cons, List.drop_zero]
   repeat still_step
   refine wpStill_nil ?_
   go_wp2_with fail
   refine (loads_any K k S s (f + p) _ H3.out).mono ?_
   rintro e w5 ⟨rfl, h5, ho5⟩
   go_wp2_with fail
   go_ret
   rw [HR.out]
   exact ⟨rfl, h5, HO3.out.trans ho5⟩
 ·have d := bne_iff_ne.2 (show (t : Int) ≠ 0 by omega)
  have HR := Lib.hid (show globalM K (loadsM K) S = (S, t) by rw [HP.out, globalR, if_pos (by simpa using ht)])
  go_wp2_with fail
  go_ret
  rw [HR.out]
  exact ⟨rfl, H1.out, HO1.out⟩
end Go.Proofs.YtabenhpjgjjgnaaGreatDoor
