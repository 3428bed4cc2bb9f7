/- A machine lays a frame. A machine goes on with the next module's body. A machine leaves a procedure. A machine returns from a body. Condition: what lies in memory can lie there; what each theorem says. -/
import Derived.Test.YtabenhpjgjjgnaaGreatDoorBag
import Derived.LoopN
import Derived.Deep.RegionHeld3
/- A machine lays a frame. -/
namespace Go.Proofs.YtabenhpjgjjgnaaGreatDoor
open Go.RowKit
set_option maxRecDepth 100000
def markM (n : Nat) (ws : Nat → Nat) (at_ m0 m1 m2 m3 m4 : Int) : Nat → Nat :=
 storeM n (storeM n (storeM n (storeM n (storeM n ws at_ (w16 m0)) (at_ + 1) (w16 m1)) (at_ + 2) (w16 m2)) (at_ + 3) (w16 m3)) (at_ + 4) (w16 m4)
def frameM (K : MK) (at_ params m0 m1 m2 m3 m4 : Int) (S : St) : St :=
 { S with ws := clearM K.n (markM K.n S.ws at_ m0 m1 m2 m3 m4) (at_ + 5 + params) (hereP K S).locals.toNat, fp := at_, sp := at_ + baseN (hereP K S), next := (hereP K S).at_, depth := S.depth + 1 }
def VoidEnd (K : MK) (W : World) (S : St) (e : Ending) (W' : World) : Prop := e = .returned (.tuple #[]) ∧ At K S W' ∧ Only K.bs W W'
theorem proc_cells {bp : Nat} {pa pp pl pd pv : Int} {pf : Bool} {W : World} (h : Bx bp #[.int .i64 pa, .int .i64 pp, .int .i64 pl, .int .i64 pd, .int .i64 pv, .bool pf] 113 W) : W.cell? ⟨bp, 0, none⟩ = some (.int .i64 pa) ∧ W.cell? ⟨bp, 1, none⟩ = some (.int .i64 pp) ∧ W.cell? ⟨bp, 2, none⟩ = some (.int .i64 pl) ∧ W.cell? ⟨bp, 3, none⟩ = some (.int .i64 pd) ∧ W.cell? ⟨bp, 4, none⟩ = some (.int .i64 pv) ∧ W.cell? ⟨bp, 5, none⟩ = some (.bool pf) :=
 ⟨(h.cell 0).trans rfl, (h.cell 1).trans rfl, (h.cell 2).trans rfl, (h.cell 3).trans rfl, (h.cell 4).trans rfl, (h.cell 5).trans rfl⟩
set_option maxHeartbeats 2000000 in
theorem frame_any (K : MK) (k : KOk K) (S : St) (s : ROk K S) (at_ params m0 m1 m2 m3 m4 : Int) (h1 : 0 ≤ at_) (h2 : at_ ≤ 1000000) (h3 : 0 ≤ params) (h4 : params ≤ 65535) (hd0 : -1000000000 ≤ S.depth) (hd1 : S.depth ≤ 1000000000) (W : World) (h : At K S W) :
 Calls Tryz.prog 57 #[.pointer (some ⟨K.b, 0, none⟩), .int .i64 at_, .int .i64 params, .agg #[.int .i64 m0, .int .i64 m1, .int .i64 m2, .int .i64 m3, .int .i64 m4]] W (VoidEnd K W (frameM K at_ params m0 m1 m2 m3 m4 S)) := by
 have HK := Lib.hid k
 have HS := Lib.hid s
 obtain ⟨⟨q0, q1⟩, ⟨q2, q3⟩, ⟨q4, q5⟩, ⟨q6, q7⟩, _, _⟩ := hereOk k s
 have HF := Lib.hid (show frameM K at_ params m0 m1 m2 m3 m4 S = { S with ws := clearM K.n (markM K.n S.ws at_ m0 m1 m2 m3 m4) (at_ + 5 + params) (hereP K S).locals.toNat, fp := at_, sp := at_ + baseN (hereP K S), next := (hereP K S).at_, depth := S.depth + 1 } from rfl)
 generalize hp : hereP K S = p at *
 obtain ⟨pa, pp, pl, pd, pv, pf⟩ := p
 unfold baseN at HF
 simp only at q0 q1 q2 q3 q4 q5 q6 q7 HF
 obtain ⟨ln, rfl⟩ := Int.eq_ofNat_of_zero_le q4
 rw [Int.toNat_natCast] at HF
 have HP := Lib.hid hp
 have HB0 := Lib.hid (alloc_below W (.cells #[.int .i64 m0, .int .i64 m1, .int .i64 m2, .int .i64 m3, .int .i64 m4] 128))
 have HX0 := Lib.hid (Bx.new W #[.int .i64 m0, .int .i64 m1, .int .i64 m2, .int .i64 m3, .int .i64 m4] 128)
 have H0 := Lib.hid (h.grow HB0.out)
 have hlt := h.lt
 clear h k s hp
 go_enter Tryz.func57, Tryz.ntmps57
 go_wp2_with fail
 refine (here_eq H0.out HS.out HP.out).mono ?_
 rintro e w1 ⟨rfl, hb1⟩
 have HX1 := Lib.hid (HX0.out.grow hb1)
 have H1 := Lib.hid (H0.out.grow hb1)
 have HO1 := Lib.hid (Only.of_below (bs := K.bs) (HB0.out.trans (hb1.mono HB0.out.size)))
 have z0 := HX1.out.lt
 clear hb1 H0 HX0 HB0
 have x0 : w1.cell? ⟨W.heap.size, 0, none⟩ = some (.int .i64 m0) := (HX1.out.cell 0).trans rfl
 have x1 : w1.cell? ⟨W.heap.size, 1, none⟩ = some (.int .i64 m1) := (HX1.out.cell 1).trans rfl
 have x2 : w1.cell? ⟨W.heap.size, 2, none⟩ = some (.int .i64 m2) := (HX1.out.cell 2).trans rfl
 have x3 : w1.cell? ⟨W.heap.size, 3, none⟩ = some (.int .i64 m3) := (HX1.out.cell 3).trans rfl
 have x4 : w1.cell? ⟨W.heap.size, 4, none⟩ = some (.int .i64 m4) := (HX1.out.cell 4).trans rfl
 go_wp2_with fail
 have HX2 := Lib.hid (Bx.new w1 #[.int .i64 pa, .int .i64 pp, .int .i64 (ln : Nat), .int .i64 pd, .int .i64 pv, .bool pf] 113)
 have H2 := Lib.hid (H1.out.grow (alloc_below w1 (.cells #[.int .i64 pa, .int .i64 pp, .int .i64 (ln : Nat), .int .i64 pd, .int .i64 pv, .bool pf] 113)))
 have HO2 := Lib.hid (HO1.out.trans (Only.of_below (bs := K.bs) (alloc_below w1 (.cells #[.int .i64 pa, .int .i64 pp, .int .i64 (ln : Nat), .int .i64 pd, .int .i64 pv, .bool pf] 113))))
 have HNb := Lib.hid (show w1.heap.size ≠ K.b from fun e => by have := H1.out.lt; omega)
 have HNm := Lib.hid (show w1.heap.size ≠ K.bm from fun e => by have := H2.out.old _ HK.out.hm; have := H1.out.mem.lt; omega)
 clear x0 x1 x2 x3 x4 z0 HX1 H1 HO1
 generalize w1.alloc (.cells #[.int .i64 pa, .int .i64 pp, .int .i64 (ln : Nat), .int .i64 pd, .int .i64 pv, .bool pf] 113) = w2 at *
 generalize w1.heap.size = bp at *
 have i0 : ∀ w, (Instr.index 128 (.agg #[.int .i64 m0, .int .i64 m1, .int .i64 m2, .int .i64 m3, .int .i64 m4]) (.int .i64 0)).run Tryz.prog w = .ok (.int .i64 m0) w := fun _ => by kernel_rfl
 have cw0 := w16_cast m0
 have i1 : ∀ w, (Instr.index 128 (.agg #[.int .i64 m0, .int .i64 m1, .int .i64 m2, .int .i64 m3, .int .i64 m4]) (.int .i64 1)).run Tryz.prog w = .ok (.int .i64 m1) w := fun _ => by kernel_rfl
 have cw1 := w16_cast m1
 have i2 : ∀ w, (Instr.index 128 (.agg #[.int .i64 m0, .int .i64 m1, .int .i64 m2, .int .i64 m3, .int .i64 m4]) (.int .i64 2)).run Tryz.prog w = .ok (.int .i64 m2) w := fun _ => by kernel_rfl
 have cw2 := w16_cast m2
 have i3 : ∀ w, (Instr.index 128 (.agg #[.int .i64 m0, .int .i64 m1, .int .i64 m2, .int .i64 m3, .int .i64 m4]) (.int .i64 3)).run Tryz.prog w = .ok (.int .i64 m3) w := fun _ => by kernel_rfl
 have cw3 := w16_cast m3
 have i4 : ∀ w, (Instr.index 128 (.agg #[.int .i64 m0, .int .i64 m1, .int .i64 m2, .int .i64 m3, .int .i64 m4]) (.int .i64 4)).run Tryz.prog w = .ok (.int .i64 m4) w := fun _ => by kernel_rfl
 have cw4 := w16_cast m4
 have c3 := H2.out.c3
 refine wp_loop_rounds 6 ?_
 rw [rounds_succ]
 go_wp2_with fail
 refine (store_any K.bs K.bm K.n HK.out.hm _ at_ (w16 m0) (w16_lt _) w2 H2.out.mem).mono ?_
 rintro e w3 ⟨rfl, hm, ho, hf⟩
 have HX3 := Lib.hid (show Bx bp #[.int .i64 pa, .int .i64 pp, .int .i64 (ln : Nat), .int .i64 pd, .int .i64 pv, .bool pf] 113 w3 from (hf bp HX2.out.lt HNm.out).trans HX2.out)
 have H3 := Lib.hid (H2.out.setMem HK.out hm ho hf)
 have HO3 := Lib.hid (HO2.out.trans ho)
 clear hm ho hf HX2 H2 HO2 c3
 have c3 := H3.out.c3
 go_wp2_with fail
 rw [rounds_succ]
 go_wp2_with fail
 refine (store_any K.bs K.bm K.n HK.out.hm _ (at_ + 1) (w16 m1) (w16_lt _) w3 H3.out.mem).mono ?_
 rintro e w4 ⟨rfl, hm, ho, hf⟩
 have HX4 := Lib.hid (show Bx bp #[.int .i64 pa, .int .i64 pp, .int .i64 (ln : Nat), .int .i64 pd, .int .i64 pv, .bool pf] 113 w4 from (hf bp HX3.out.lt HNm.out).trans HX3.out)
 have H4 := Lib.hid (H3.out.setMem HK.out hm ho hf)
 have HO4 := Lib.hid (HO3.out.trans ho)
 clear hm ho hf HX3 H3 HO3 c3
 have c3 := H4.out.c3
 go_wp2_with fail
 rw [rounds_succ]
 go_wp2_with fail
 refine (store_any K.bs K.bm K.n HK.out.hm _ (at_ + 2) (w16 m2) (w16_lt _) w4 H4.out.mem).mono ?_
 rintro e w5 ⟨rfl, hm, ho, hf⟩
 have HX5 := Lib.hid (show Bx bp #[.int .i64 pa, .int .i64 pp, .int .i64 (ln : Nat), .int .i64 pd, .int .i64 pv, .bool pf] 113 w5 from (hf bp HX4.out.lt HNm.out).trans HX4.out)
 have H5 := Lib.hid (H4.out.setMem HK.out hm ho hf)
 have HO5 := Lib.hid (HO4.out.trans ho)
 clear hm ho hf HX4 H4 HO4 c3
 have c3 := H5.out.c3
 go_wp2_with fail
 rw [rounds_succ]
 go_wp2_with fail
 refine (store_any K.bs K.bm K.n HK.out.hm _ (at_ + 3) (w16 m3) (w16_lt _) w5 H5.out.mem).mono ?_
 rintro e w6 ⟨rfl, hm, ho, hf⟩
 have HX6 := Lib.hid (show Bx bp #[.int .i64 pa, .int .i64 pp, .int .i64 (ln : Nat), .int .i64 pd, .int .i64 pv, .bool pf] 113 w6 from (hf bp HX5.out.lt HNm.out).trans HX5.out)
 have H6 := Lib.hid (H5.out.setMem HK.out hm ho hf)
 have HO6 := Lib.hid (HO5.out.trans ho)
 clear hm ho hf HX5 H5 HO5 c3
 have c3 := H6.out.c3
 go_wp2_with fail
 rw [rounds_succ]
 go_wp2_with fail
 refine (store_any K.bs K.bm K.n HK.out.hm _ (at_ + 4) (w16 m4) (w16_lt _) w6 H6.out.mem).mono ?_
 rintro e w7 ⟨rfl, hm, ho, hf⟩
 have HX7 := Lib.hid (show Bx bp #[.int .i64 pa, .int .i64 pp, .int .i64 (ln : Nat), .int .i64 pd, .int .i64 pv, .bool pf] 113 w7 from (hf bp HX6.out.lt HNm.out).trans HX6.out)
 have H7 := Lib.hid (H6.out.setMem HK.out hm ho hf)
 have HO7 := Lib.hid (HO6.out.trans ho)
 clear hm ho hf HX6 H6 HO6 c3
 have c3 := H7.out.c3
 go_wp2_with fail
 rw [rounds_succ]
 go_wp2_with fail
 have HD := Lib.hid (show At K _ w7.drew from H7.out.grow (drew_below w7))
 have HXd := Lib.hid (HX7.out.grow (drew_below w7))
 have HOd := Lib.hid (HO7.out.trans (Only.of_below (bs := K.bs) (drew_below w7)))
 clear H7 HX7 HO7 c3
 refine wp_region_tail 10 (by kernel_rfl) (by kernel_rfl) ?_
 generalize w7.drew = wd at *
 have c3 := HD.out.c3
 have p2 : wd.cell? ⟨bp, 2, none⟩ = some (.int .i64 (ln : Nat)) := (HXd.out.cell 2).trans rfl
 simp only [List.take_succ_cons, List.take_zero, List.drop_succ_cons, List.drop_zero]
 repeat still_step
 refine wpStill_nil ?_
 go_wp2_with fail
 refine (clear_any K.bs K.bm K.n HK.out.hm _ (at_ + 5 + params) ln (by omega) wd HD.out.mem).mono ?_
 rintro e w8 ⟨rfl, hm, ho, hf⟩
 have HX8 := Lib.hid (show Bx bp #[.int .i64 pa, .int .i64 pp, .int .i64 (ln : Nat), .int .i64 pd, .int .i64 pv, .bool pf] 113 w8 from (hf bp HXd.out.lt HNm.out).trans HXd.out)
 have H8 := Lib.hid (HD.out.setMem HK.out hm ho hf)
 have HO8 := Lib.hid (HOd.out.trans ho)
 clear hm ho hf HXd HD HOd c3 p2
 go_wp2_with fail
 have hN : bp ≠ K.b := HNb.out
 have hx := HX8.out.grow (drew_below w8)
 have h8 := H8.out.grow (drew_below w8)
 have ho8 := HO8.out.trans (Only.of_below (bs := K.bs) (drew_below w8))
 clear HX8 H8 HO8
 go_region_held3 (fun W => W.cell? ⟨bp, 0, none⟩ = some (.int .i64 pa) ∧ W.cell? ⟨bp, 1, none⟩ = some (.int .i64 pp) ∧ W.cell? ⟨bp, 2, none⟩ = some (.int .i64 (ln : Nat)) ∧ W.cell? ⟨bp, 3, none⟩ = some (.int .i64 pd) ∧ W.cell? ⟨bp, 4, none⟩ = some (.int .i64 pv) ∧ W.cell? ⟨bp, 5, none⟩ = some (.bool pf)) (first | exact proc_cells (by assumption) | exact proc_cells (Bx.far (by assumption) hN _) | exact proc_cells (Bx.far (Bx.far (by assumption) hN _) hN _) | exact proc_cells (Bx.far (Bx.far (Bx.far (by assumption) hN _) hN _) hN _)) (first
  | (go_at_call 56
     refine (base_eq (n := 5 + pp + ln) (by omega) (by omega) (by omega) (by omega) rfl).mono ?_
     rintro e w9 ⟨rfl, hb9⟩
     have hx9 := Bx.grow (k := bp) (cs := #[.int .i64 pa, .int .i64 pp, .int .i64 (ln : Nat), .int .i64 pd, .int .i64 pv, .bool pf]) (by assumption) hb9
     have h9 := At.grow (K := K) (by assumption) hb9
     have c13 := h9.c13
     have c14 := h9.c14
     have c15 := h9.c15
     have c17 := h9.c17
     have f9 := h9.fz
     have ho9 := Only.trans (by assumption) (Only.of_below (bs := K.bs) hb9)))
 all_goals (go_wp2_with fail)
 all_goals (
  go_end0
  rw [HF.out]
  exact ⟨rfl, (((h9.set_fp HK.out at_).set_sp HK.out (at_ + (5 + pp + ln))).set_next HK.out pa).set_depth HK.out (S.depth + 1), (((ho9.setCell (a := ⟨K.b, 13, none⟩) HK.out.hb _).setCell (a := ⟨K.b, 14, none⟩) HK.out.hb _).setCell (a := ⟨K.b, 15, none⟩) HK.out.hb _).setCell (a := ⟨K.b, 17, none⟩) HK.out.hb _⟩)
end Go.Proofs.YtabenhpjgjjgnaaGreatDoor
/- A machine goes on with the next module's body. -/
namespace Go.Proofs.YtabenhpjgjjgnaaGreatDoor
open Go.RowKit
set_option maxRecDepth 100000
def nextMod (K : MK) (S : St) : Int := K.order.getD S.ord.toNat 0
def nextP (K : MK) (S : St) : ProcL := (K.mods.getD (nextMod K S).toNat default).procs.getD 0 default
def beginsM (K : MK) (S : St) : St × Nat :=
 if S.ord = K.order.length then ({ S with kind := 1, depth := 0 }, 0)
 else if K.high < K.low + baseN (nextP K S) + (nextP K S).depth then (S, 11)
 else (frameM K K.low 0 0 0 0 0 0 { S with ord := S.ord + 1, mod := nextMod K S, proc := 0, depth := 0 }, 0)
theorem nextOk {K : MK} (k : KOk K) {S : St} (h0 : 0 ≤ S.ord) (h1 : S.ord < K.order.length) : (0 ≤ nextMod K S ∧ nextMod K S < K.mods.length) ∧ 0 < (K.mods.getD (nextMod K S).toNat default).procs.length ∧ K.mods.getD (nextMod K S).toNat default ∈ K.mods ∧ nextP K S ∈ (K.mods.getD (nextMod K S).toNat default).procs := by
 have h := k.may
 unfold checkB at h
 simp only [Bool.and_eq_true] at h
 have hm : nextMod K S ∈ K.order := getD_mem' _ _ _ (by omega)
 have h2 := List.all_eq_true.1 h.1.2 _ hm
 unfold withinB at h2
 simp only [Bool.and_eq_true, decide_eq_true_eq] at h2
 have hr : 0 ≤ nextMod K S ∧ nextMod K S < K.mods.length := by omega
 have hmm : K.mods.getD (nextMod K S).toNat default ∈ K.mods := getD_mem' _ _ _ (by omega)
 have h3 := List.all_eq_true.1 h.1.1.2 _ hmm
 unfold modB headB withinB at h3
 simp only [Bool.and_eq_true, decide_eq_true_eq] at h3
 have hp : 0 < (K.mods.getD (nextMod K S).toNat default).procs.length := by omega
 exact ⟨hr, hp, hmm, getD_mem' _ _ _ hp⟩
set_option maxHeartbeats 2000000 in
theorem begins_any (K : MK) (k : KOk K) (S : St) (h0 : 0 ≤ S.ord) (h1 : S.ord ≤ K.order.length) (hol : K.order.length ≤ 1000) (W : World) (h : At K S W) : Calls Tryz.prog 30 #[.pointer (some ⟨K.b, 0, none⟩)] W (OpEnd K W (beginsM K S)) := by
 have HK := Lib.hid k
 have H := Lib.hid h
 have c9 := h.c9
 have c2 := h.c2
 have hlt := h.lt
 have f18 := h.fz 18
 have f17 := h.fz 17
 have c18 := h.c18
 have c17 := h.c17
 by_cases he : S.ord = K.order.length
 ·have HR := Lib.hid (show beginsM K S = ({ S with kind := 1, depth := 0 }, 0) by unfold beginsM; rw [if_pos he])
  have d : (S.ord == (K.order.length : Int)) = true := beq_iff_eq.2 he
  clear h k he
  go_enter Tryz.func30, Tryz.ntmps30
  go_wp2_with fail
  go_quiet (fail)
  go_wp2_with fail
  go_ret
  rw [HR.out]
  exact ⟨rfl, ((H.out.grow (below_drawn (Below.refl _ _) _)).set_kind HK.out 1).set_depth HK.out 0, ((Only.of_below (below_drawn (Below.refl _ _) _)).setCell (a := ⟨K.b, 18, none⟩) HK.out.hb _).setCell (a := ⟨K.b, 17, none⟩) HK.out.hb _⟩
 ·have h2 : S.ord < K.order.length := by omega
  obtain ⟨⟨n0, n1⟩, np, nm, npm⟩ := nextOk k h0 h2
  obtain ⟨⟨q0, q1⟩, ⟨q2, q3⟩, ⟨q4, q5⟩, ⟨q6, q7⟩, _, _⟩ := procOk k nm npm
  have HR0 := Lib.hid (show beginsM K S = if K.high < K.low + baseN (nextP K S) + (nextP K S).depth then (S, 11) else (frameM K K.low 0 0 0 0 0 0 { S with ord := S.ord + 1, mod := nextMod K S, proc := 0, depth := 0 }, 0) by unfold beginsM; rw [if_neg he])
  have HRk := Lib.hid (show ROk K { S with ord := S.ord + 1, mod := nextMod K S, proc := 0, depth := 0 } from ⟨n0, n1, Int.le_refl _, by simpa [modOf] using np⟩)
  have d : (S.ord == (K.order.length : Int)) = false := beq_eq_false_iff_ne.2 he
  have l1 := k.low1
  have l2 := k.lowh
  have l3 := k.high
  have l4 := k.n_le
  have ho1 : S.ord < (K.order.length : Int) := h2
  clear h k he npm nm f18 f17 c18 c17
  go_enter Tryz.func30, Tryz.ntmps30
  go_wp2_with fail
  refine wp_region_grow (by kernel_rfl) (by kernel_rfl) ?_
  repeat (first | go_big_quiet_step (fail))
  refine wpQuiet_nil ?_
  rintro _ ⟨g1, rfl⟩
  have H1 := Lib.hid (H.out.grow (growN_below W g1))
  have HO1 := Lib.hid (Only.of_below (bs := K.bs) (growN_below W g1))
  clear H c9 c2 hlt
  generalize growN W g1 = u1 at *
  go_wp2_with fail
  clear d
  have c9 := H1.out.c9
  have c2 := H1.out.c2
  have hlt := H1.out.lt
  obtain ⟨ob, oo, hoA, hob, oc⟩ := (H1.out.order.reads (mask_reads _ _)).at_ (j := S.ord.toNat) (by omega)
  rw [hoA] at c2
  have oc' : u1.cell? ⟨ob, oo + S.ord.toNat, none⟩ = some (.int .i64 (nextMod K S)) := by simpa [nextMod] using oc
  clear oc hoA
  generalize hN : nextMod K S = N at *
  have HN := Lib.hid hN
  clear hN
  refine wp_region_grow (by kernel_rfl) (by kernel_rfl) ?_
  repeat (first | go_big_quiet_step (fail))
  refine wpQuiet_nil ?_
  rintro _ ⟨g2, rfl⟩
  have H0 := Lib.hid (H1.out.grow (growN_below u1 g2))
  have HO0 := Lib.hid (HO1.out.trans (Only.of_below (bs := K.bs) (growN_below u1 g2)))
  clear H1 HO1 c9 c2 hlt hob oc'
  generalize growN u1 g2 = w0 at *
  have k1 := H0.out.c1
  have s0 := H0.out.lt
  obtain ⟨mb, mo, hmA, hmb, mt, hMI, _, kc, _⟩ := (H0.out.mods.reads (mask_reads _ _)).at_ (j := N.toNat) (by omega)
  obtain ⟨pb, po, hpA, hpb, hP⟩ := hMI.procs.at_ (j := 0) np
  have hP' : ProcAt w0 pb po (nextP K S) := by simpa [nextP, HN.out] using hP
  clear hP hMI
  rw [hmA] at k1
  rw [hpA] at kc
  clear hmA hpA
  generalize (K.mods.getD N.toNat default).procs.length = npl at *
  generalize hp : nextP K S = p at *
  obtain ⟨pa, pp, pl, pd, pv, pf⟩ := p
  obtain ⟨r0, r1, r2, r3, r4, r5⟩ := hP'
  unfold baseN at HR0
  simp only at q0 q1 q2 q3 q4 q5 q6 q7 HR0 r0 r1 r2 r3 r4 r5
  have HP := Lib.hid hp
  clear hp
  go_wp2_with fail
  have H1 := Lib.hid (H0.out.grow (alloc_below w0 (.cells #[.int .i64 pa, .int .i64 pp, .int .i64 pl, .int .i64 pd, .int .i64 pv, .bool pf] 113)))
  have HX1 := Lib.hid (Bx.new w0 #[.int .i64 pa, .int .i64 pp, .int .i64 pl, .int .i64 pd, .int .i64 pv, .bool pf] 113)
  have HO1 := Lib.hid (HO0.out.trans (Only.of_below (bs := K.bs) (alloc_below w0 (.cells #[.int .i64 pa, .int .i64 pp, .int .i64 pl, .int .i64 pd, .int .i64 pv, .bool pf] 113))))
  have HNb := Lib.hid (show w0.heap.size ≠ K.b from fun e => by omega)
  clear k1 kc r0 r1 r2 r3 r4 r5 hmb hpb H0 HO0
  generalize w0.alloc (.cells #[.int .i64 pa, .int .i64 pp, .int .i64 pl, .int .i64 pd, .int .i64 pv, .bool pf] 113) = w1 at *
  generalize w0.heap.size = bp at *
  have k7 := H1.out.c7
  have k8 := H1.out.c8
  have s0' := H1.out.lt
  have s1 := HX1.out.lt
  obtain ⟨r0, r1, r2, r3, r4, r5⟩ := proc_cells HX1.out
  have e1 : IntKind.i64.wrap (K.low + (5 + pp + pl)) = K.low + (5 + pp + pl) := IntWalk.i64_in _ (by omega)
  have e2 : IntKind.i64.wrap (K.low + (5 + pp + pl) + pd) = K.low + (5 + pp + pl) + pd := IntWalk.i64_in _ (by omega)
  refine wp_region_grow (by kernel_rfl) (by kernel_rfl) ?_
  repeat (first | go_big_quiet_step (first
   | (go_at_call 56; refine quiet_grow (base_eq (by omega) (by omega) (by omega) (by omega) rfl))))
  refine wpQuiet_nil ?_
  rintro _ ⟨gx, rfl⟩
  have H2 := Lib.hid (H1.out.grow (growN_below w1 gx))
  have HO2 := Lib.hid (HO1.out.trans (Only.of_below (bs := K.bs) (growN_below w1 gx)))
  clear H1 HO1 HX1 k7 k8 s0' s1 r0 r1 r2 r3 r4 r5 e1 e2
  generalize growN w1 gx = w2 at *
  by_cases ht : K.high < K.low + (5 + pp + pl) + pd
  ·have HR := Lib.hid (show beginsM K S = (S, 11) by rw [HR0.out, if_pos ht])
   go_wp2_with fail
   go_ret
   rw [HR.out]
   exact ⟨rfl, H2.out, HO2.out⟩
  ·have HR := Lib.hid (show beginsM K S = (frameM K K.low 0 0 0 0 0 0 { S with ord := S.ord + 1, mod := N, proc := 0, depth := 0 }, 0) by rw [HR0.out, if_neg ht])
   have hnt : K.low + (5 + pp + pl) + pd ≤ K.high := by omega
   clear ht
   have k9 := H2.out.c9
   have k10 := H2.out.c10
   have k11 := H2.out.c11
   have k17 := H2.out.c17
   have k7 := H2.out.c7
   have fz := H2.out.fz
   have H3 := Lib.hid ((((H2.out.set_ord HK.out (S.ord + 1)).set_mod HK.out N).set_proc HK.out 0).set_depth HK.out 0)
   have HO3 := Lib.hid ((((HO2.out.setCell (a := ⟨K.b, 9, none⟩) HK.out.hb (.int .i64 (S.ord + 1))).setCell (a := ⟨K.b, 10, none⟩) HK.out.hb (.int .i64 N)).setCell (a := ⟨K.b, 11, none⟩) HK.out.hb (.int .i64 0)).setCell (a := ⟨K.b, 17, none⟩) HK.out.hb (.int .i64 0))
   go_wp2_with fail
   refine (frame_any K HK.out { S with ord := S.ord + 1, mod := N, proc := 0, depth := 0 } HRk.out K.low 0 0 0 0 0 0 (by omega) (by omega) (by omega) (by omega) (by simp only; omega) (by simp only; omega) _ H3.out).mono ?_
   rintro e w4 ⟨rfl, h4, ho4⟩
   go_wp2_with fail
   go_ret
   rw [HR.out]
   exact ⟨rfl, h4, HO3.out.trans ho4⟩
end Go.Proofs.YtabenhpjgjjgnaaGreatDoor
/- A machine leaves a procedure. -/
namespace Go.Proofs.YtabenhpjgjjgnaaGreatDoor
open Go.RowKit
set_option maxRecDepth 100000
theorem field_fn (pa pp pl pd pv : Int) (pf : Bool) (w : World) : (Instr.field 113 (.agg #[.int .i64 pa, .int .i64 pp, .int .i64 pl, .int .i64 pd, .int .i64 pv, .bool pf]) 5).run Tryz.prog w = .ok (.bool pf) w := by kernel_rfl
theorem leave_kind (K : MK) (_k : KOk K) (S : St) (s : SOk K S) (is : Bool) (hf : (hereP K S).fn ≠ is) (W : World) (h : At K S W) : Calls Tryz.prog 151 #[.pointer (some ⟨K.b, 0, none⟩), .bool is] W (OpEnd K W (S, 13)) := by
 generalize hp : hereP K S = p at *
 obtain ⟨pa, pp, pl, pd, pv, pf⟩ := p
 have HP := Lib.hid hp
 have HS := Lib.hid s
 have H := Lib.hid h
 have hfd := field_fn pa pp pl pd pv pf
 have hne : (!pf == is) = true := by cases pf <;> cases is <;> simp_all
 clear hp s h _k hf
 go_enter Tryz.func151, Tryz.ntmps151
 go_wp2_with fail
 refine (here_eq H.out HS.out.toROk HP.out).mono ?_
 rintro e w1 ⟨rfl, hb1⟩
 have H1 := Lib.hid (H.out.grow hb1)
 have HO1 := Lib.hid (Only.of_below (bs := K.bs) hb1)
 clear hb1
 go_wp2_with fail
 go_ret
 exact ⟨rfl, H1.out, HO1.out⟩
set_option maxHeartbeats 20000000 in
theorem leave_begins (K : MK) (k : KOk K) (S : St) (s : SOk K S) (is : Bool) (hf : (hereP K S).fn = is) (h0 : 0 ≤ S.ord) (h1 : S.ord ≤ K.order.length) (hol : K.order.length ≤ 1000) (hz : S.ws (S.fp.toNat - 1 + 1) = 0) (hlow : S.fp = K.low) (W : World) (h : At K S W) :
 Calls Tryz.prog 151 #[.pointer (some ⟨K.b, 0, none⟩), .bool is] W (OpEnd K W (beginsM K S)) := by
 have l1 := k.low1
 have l5 := s.fp1
 have l6 := s.sp0
 have l7 := s.sp1
 have l8 := s.top
 have l3 := k.high
 have l4 := k.n_le
 obtain ⟨⟨_, _⟩, ⟨q2, q3⟩, ⟨q4, q5⟩, ⟨q6, q7⟩, _, _⟩ := hereOk k s.toROk
 generalize hp : hereP K S = p at *
 obtain ⟨pa, pp, pl, pd, pv, pf⟩ := p
 unfold baseN at l6 l7 l8
 simp only at l6 l7 l8 q2 q3 q4 q5 q6 q7 hf
 have HP := Lib.hid hp
 have HK := Lib.hid k
 have HS := Lib.hid s
 have H := Lib.hid h
 have hfd := field_fn pa pp pl pd pv pf
 have hne : (!pf == is) = false := by cases pf <;> cases is <;> simp_all
 have HZ := Lib.hid hz
 have HL := Lib.hid hlow
 clear hp s h k hf hz hlow
 go_enter Tryz.func151, Tryz.ntmps151
 go_wp2_with fail
 refine (here_eq H.out HS.out.toROk HP.out).mono ?_
 rintro e w1 ⟨rfl, hb1⟩
 have H1 := Lib.hid (H.out.grow hb1)
 have HO1 := Lib.hid (Only.of_below (bs := K.bs) hb1)
 clear hb1 H
 go_wp2_with fail
 clear hne
 have h2 := H1.out.grow (drew_below w1)
 have ho2 := HO1.out.trans (Only.of_below (bs := K.bs) (drew_below w1))
 clear H1 HO1
 refine wp_region_held_drew (S := At K S) (by kernel_rfl) (by assumption) (fun hHeld => ?_)
 refine wpAnyH_take (i := 0) (v := .pointer (some ⟨K.b, 0, none⟩)) rfl (by kernel_rfl) (by kernel_rfl) (by kernel_rfl) (fun _ _ _ h => h) (Or.inl ⟨by rfl, ?_⟩) (by assumption) ?_
 ·intro w hSw; go_simp
 simp only [Act.put, List.setIfInBounds_toArray]
 refine wpAnyH_take (i := 1) (v := .pointer (some ⟨K.b, 0, none⟩)) rfl (by kernel_rfl) (by kernel_rfl) (by kernel_rfl) (fun _ _ _ h => h) (Or.inl ⟨by rfl, ?_⟩) (by assumption) ?_
 ·intro w hSw; go_simp
 simp only [Act.put]
 refine wpAnyH_take (i := 2) (v := .pointer (some ⟨K.b, 3, none⟩)) rfl (by kernel_rfl) (by kernel_rfl) (by kernel_rfl) (fun _ _ _ h => h) (Or.inl ⟨by rfl, ?_⟩) (by assumption) ?_
 ·intro w hSw; go_simp
 simp only [Act.put]
 refine wpAnyH_take (i := 3) (v := .pointer (some ⟨K.bm, 0, none⟩)) rfl (by kernel_rfl) (by kernel_rfl) (by kernel_rfl) (fun _ _ _ h => h) (Or.inl ⟨by rfl, ?_⟩) (by assumption) ?_
 ·intro w hSw; have m3 := hSw.c3; go_simp
 simp only [Act.put]
 refine wpAnyH_take (i := 4) (v := .pointer (some ⟨K.b, 0, none⟩)) rfl (by kernel_rfl) (by kernel_rfl) (by kernel_rfl) (fun _ _ _ h => h) (Or.inl ⟨by rfl, ?_⟩) (by assumption) ?_
 ·intro w hSw; go_simp
 simp only [Act.put]
 refine wpAnyH_take (i := 5) (v := .pointer (some ⟨K.b, 0, none⟩)) rfl (by kernel_rfl) (by kernel_rfl) (by kernel_rfl) (fun _ _ _ h => h) (Or.inl ⟨by rfl, ?_⟩) (by assumption) ?_
 ·intro w hSw; go_simp
 simp only [Act.put]
 refine wpAnyH_take (i := 6) (v := .pointer (some ⟨K.b, 13, none⟩)) rfl (by kernel_rfl) (by kernel_rfl) (by kernel_rfl) (fun _ _ _ h => h) (Or.inl ⟨by rfl, ?_⟩) (by assumption) ?_
 ·intro w hSw; go_simp
 simp only [Act.put]
 refine wpAnyH_take (i := 7) (v := .int .i64 S.fp) rfl (by kernel_rfl) (by kernel_rfl) (by kernel_rfl) (fun _ _ _ h => h) (Or.inl ⟨by rfl, ?_⟩) (by assumption) ?_
 ·intro w hSw; have m13 := hSw.c13; go_simp
 simp only [Act.put]
 refine wpAnyH_ready (rs := [8]) (by kernel_rfl) (by simp) ?_
 refine AllReadyH.cons rfl (fun K' hK => ?_) AllReadyH.nil
 go_simp
 refine (row_eq K.bm K.n S.ws S.fp 5 (by omega) (by omega) _ (h2.mem)).mono ?_
 rintro e w4 ⟨A4, c4, rfl, hW4, hb4⟩
 obtain ⟨b4, o4, rfl, hc4⟩ := word_cells (hW4 K.bs h2.old) (by rw [rowM_length]; omega)
 refine hK.out _ _ (h2.grow hb4) (fun hHeld4 => ?_)
 clear hK K'
 refine wpAnyH_take (i := 9) (v := .tuple #[.slice (some ⟨b4, o4, none⟩) 5 c4, .bool true]) rfl (by kernel_rfl) (by kernel_rfl) (by kernel_rfl) (fun _ _ _ h => h) (Or.inl ⟨by rfl, ?_⟩) (by assumption) ?_
 ·intro w hSw; go_simp
 simp only [Act.put, List.setIfInBounds_toArray]
 refine wpAnyH_take (i := 10) (v := .slice (some ⟨b4, o4, none⟩) 5 c4) rfl (by kernel_rfl) (by kernel_rfl) (by kernel_rfl) (fun _ _ _ h => h) (Or.inl ⟨by rfl, ?_⟩) (by assumption) ?_
 ·intro w hSw; go_simp
 simp only [Act.put]
 refine wpAnyH_take (i := 11) (v := .bool true) rfl (by kernel_rfl) (by kernel_rfl) (by kernel_rfl) (fun _ _ _ h => h) (Or.inl ⟨by rfl, ?_⟩) (by assumption) ?_
 ·intro w hSw; go_simp
 simp only [Act.put]
 refine wpAnyH_take (i := 12) (v := .slice (some ⟨b4, o4, none⟩) 5 c4) rfl (by kernel_rfl) (by kernel_rfl) (by kernel_rfl) (fun _ _ _ h => h) (Or.inl ⟨by rfl, ?_⟩) (by assumption) ?_
 ·intro w hSw; go_simp
 simp only [Act.put]
 refine wpAnyH_take (i := 13) (v := .bool true) rfl (by kernel_rfl) (by kernel_rfl) (by kernel_rfl) (fun _ _ _ h => h) (Or.inl ⟨by rfl, ?_⟩) (by assumption) ?_
 ·intro w hSw; go_simp
 simp only [Act.put]
 refine wpAnyH_done (by kernel_rfl) ?_ _
 simp only [List.getElem_toArray, List.getElem_cons_succ, List.getElem_cons_zero, List.setIfInBounds_toArray, List.set_cons_zero, List.set_cons_succ]
 have H4 := Lib.hid (h2.grow hb4)
 have HO4 := Lib.hid (ho2.trans (Only.of_below (bs := K.bs) hb4))
 obtain ⟨e1, _⟩ := hc4 1 (by rw [rowM_length]; omega)
 obtain ⟨e2, r2⟩ := hc4 2 (by rw [rowM_length]; omega)
 obtain ⟨e3, r3⟩ := hc4 3 (by rw [rowM_length]; omega)
 obtain ⟨e4, r4⟩ := hc4 4 (by rw [rowM_length]; omega)
 rw [rowM_get _ _ _ _ (by omega), HZ.out] at e1
 have hlt : b4 < w4.heap.size := lt_of_cell e1
 generalize (rowM S.ws S.fp 5).getD 2 0 = x2 at *
 generalize (rowM S.ws S.fp 5).getD 3 0 = x3 at *
 generalize (rowM S.ws S.fp 5).getD 4 0 = x4 at *
 have v2 : IntKind.i64.wrap (x2 : Int) = x2 := IntWalk.i64_in _ (by omega)
 have v3 : IntKind.i64.wrap (x3 : Int) = x3 := IntWalk.i64_in _ (by omega)
 have v4 : IntKind.i64.wrap (x4 : Int) = x4 := IntWalk.i64_in _ (by omega)
 clear hc4 hW4 hHeld4 h2 ho2 hb4
 go_wp2_with fail
 refine wp_region_grow (by kernel_rfl) (by kernel_rfl) ?_
 repeat (first | go_big_quiet_step (fail))
 refine wpQuiet_nil ?_
 rintro _ ⟨gx, rfl⟩
 have H5 := Lib.hid (H4.out.grow (growN_below w4 gx))
 have HO5 := Lib.hid (HO4.out.trans (Only.of_below (bs := K.bs) (growN_below w4 gx)))
 clear H4 HO4 e1 e2 e3 e4 hlt v2 v3 v4
 generalize growN w4 gx = w5 at *
 have m13 := H5.out.c13
 rw [HL.out] at m13
 have m7 := H5.out.c7
 have hlt : K.b < w5.heap.size := H5.out.lt
 go_wp2_with fail
 refine wp_region_grow (by kernel_rfl) (by kernel_rfl) ?_
 repeat (first | go_big_quiet_step (fail))
 refine wpQuiet_nil ?_
 rintro _ ⟨gx, rfl⟩
 have H6 := Lib.hid (H5.out.grow (growN_below w5 gx))
 have HO6 := Lib.hid (HO5.out.trans (Only.of_below (bs := K.bs) (growN_below w5 gx)))
 clear H5 HO5 m13 m7 hlt
 generalize growN w5 gx = w6 at *
 go_wp2_with fail
 refine (begins_any K HK.out S h0 h1 hol w6 H6.out).mono ?_
 rintro e w7 ⟨rfl, h7, ho7⟩
 go_wp2_with fail
 go_ret
 exact ⟨rfl, h7, HO6.out.trans ho7⟩
end Go.Proofs.YtabenhpjgjjgnaaGreatDoor
/- A machine returns from a body. -/
namespace Go.Proofs.YtabenhpjgjjgnaaGreatDoor
open Go.RowKit
set_option maxRecDepth 100000
attribute [local go_sem ↓] Go.wp_at_zero Go.wp_at_succ
theorem ret_begins (K : MK) (k : KOk K) (S : St) (s : SOk K S) (hf : (hereP K S).fn = false) (h0 : 0 ≤ S.ord) (h1 : S.ord ≤ K.order.length) (hol : K.order.length ≤ 1000) (hz : S.ws (S.fp.toNat - 1 + 1) = 0) (hlow : S.fp = K.low) (W : World) (h : At K S W) :
 Calls Tryz.prog 88 #[.pointer (some ⟨K.b, 0, none⟩)] W (OpEnd K W (beginsM K S)) := by
 have HC := Lib.hid (leave_begins K k S s false hf h0 h1 hol hz hlow W h)
 clear h hlow hz
 go_enter Tryz.func88, Tryz.ntmps88
 go_wp2_with fail
 refine (HC.out).mono ?_
 rintro e w1 ⟨rfl, h1, ho1⟩
 go_wp2_with fail
 go_ret
 exact ⟨rfl, h1, ho1⟩
def takesN (n : Nat) : Nat := if n < 1 ∨ 31 < n then 0 else if n = 6 ∨ n = 7 ∨ n = 23 ∨ n = 30 then 1 else 2
theorem takes_any (n : Nat) (W : World) : Calls Tryz.prog 64 #[.int .u8 n] W (fun e w' => e = .returned (.int .i64 (takesN n : Nat)) ∧ Below W.heap.size W w') := by
 have HT := Lib.hid (show takesN n = if n < 1 ∨ 31 < n then 0 else if n = 6 ∨ n = 7 ∨ n = 23 ∨ n = 30 then 1 else 2 from rfl)
 by_cases h1 : n < 1
 ·have d := decide_eq_true (show (n : Int) < 1 by omega)
  go_enter Tryz.func64, Tryz.ntmps64
  go_wp2_with fail
  go_ret
  rw [HT.out, if_pos (.inl h1)]
  exact ⟨rfl, Below.refl _ _⟩
 ·have d1 := decide_eq_false (show ¬ (n : Int) < 1 by omega)
  by_cases h2 : 31 < n
  ·have d2 := decide_eq_true (show (31 : Int) < n by omega)
   clear h1
   go_enter Tryz.func64, Tryz.ntmps64
   go_wp2_with fail
   go_ret
   rw [HT.out, if_pos (.inr h2)]
   exact ⟨rfl, Below.refl _ _⟩
  ·have d2 := decide_eq_false (show ¬ (31 : Int) < n by omega)
   have HN := Lib.hid (show ¬ (n < 1 ∨ 31 < n) by omega)
   clear h1 h2
   by_cases e6 : n = 6
   ·subst e6
    clear d1 d2
    go_enter Tryz.func64, Tryz.ntmps64
    go_wp2_with fail
    go_ret
    exact ⟨rfl, Below.refl _ _⟩
   have b6 : ((n : Int) == 6) = false := beq_false_of_ne (by omega)
   by_cases e7 : n = 7
   ·subst e7
    clear d1 d2 b6
    go_enter Tryz.func64, Tryz.ntmps64
    go_wp2_with fail
    go_ret
    exact ⟨rfl, Below.refl _ _⟩
   have b7 : ((n : Int) == 7) = false := beq_false_of_ne (by omega)
   by_cases e23 : n = 23
   ·subst e23
    clear d1 d2 b6 b7
    go_enter Tryz.func64, Tryz.ntmps64
    go_wp2_with fail
    go_ret
    exact ⟨rfl, Below.refl _ _⟩
   have b23 : ((n : Int) == 23) = false := beq_false_of_ne (by omega)
   by_cases e30 : n = 30
   ·subst e30
    clear d1 d2 b6 b7 b23
    go_enter Tryz.func64, Tryz.ntmps64
    go_wp2_with fail
    go_ret
    exact ⟨rfl, Below.refl _ _⟩
   have b30 : ((n : Int) == 30) = false := beq_false_of_ne (by omega)
   have HM := Lib.hid (show ¬ (n = 6 ∨ n = 7 ∨ n = 23 ∨ n = 30) by omega)
   clear e6 e7 e23 e30
   go_enter Tryz.func64, Tryz.ntmps64
   go_wp2_with fail
   go_ret
   rw [HT.out, if_neg HN.out, if_neg HM.out]
   exact ⟨rfl, Below.refl _ _⟩
end Go.Proofs.YtabenhpjgjjgnaaGreatDoor
