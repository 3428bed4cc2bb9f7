/- A machine's mark, loads, stores, procs. A machine's frame so many levels out. A machine enters a procedure. A machine calls a procedure of the module that runs. A machine goes back to who called. A machine's function goes back with its word. A machine loads a word of a frame, as a closure. Condition: what lies in memory can lie there; what each theorem says. -/
import Derived.Test.YtpfcojnkflcnoaaGreatDoorBg
import Derived.Test.YtpfcojnkflcnoaaGreatDoorBh
import Derived.Deep.RegionHeld3
/- A machine's mark, loads, stores, procs. Condition: what lies in memory can lie there. -/
namespace Go.Proofs.YtpfcojnkflcnoaaGreatDoor
open Go.RowKit
set_option maxRecDepth 100000
attribute [local go_sem ↓] Go.wp_at_zero Go.wp_at_succ

def loadsM (K : MK) (at_ : Int) (S : St) : St × Nat := if inM K.n at_ then pushM K (loadM K.n S.ws at_) S else (S, 15)
theorem loadM_lt {n : Nat} {ws : Nat → Nat} (h : ∀ i, ws i < 65536) (at_ : Int) : loadM n ws at_ < 65536 := by unfold loadM; split; exact h _; omega
theorem loads_any (K : MK) (k : KOk K) (S : St) (s : SOk K S) (at_ : Int) (W : World) (h : At K S W) : Calls Tryz.prog 55 #[.pointer (some ⟨K.b, 0, none⟩), .int .i64 at_] W (OpEnd K W (loadsM K at_ S)) := by
  have HK := Lib.hid k
  have H := Lib.hid h
  have HS := Lib.hid s
  have c3 := h.c3
  have hlt := h.lt
  clear h k s
  go_enter Tryz.func55, Tryz.ntmps55
  go_wp2_with fail
  refine (load_any K.bm K.n S.ws at_ _ H.out.mem).mono ?_
  rintro e w1 ⟨rfl, hb1⟩
  have H1 := Lib.hid (H.out.grow hb1)
  have HO1 := Lib.hid (Only.of_below (bs := K.bs) hb1)
  have HL := Lib.hid (loadM_lt (n := K.n) H.out.mem.small at_)
  clear hb1 H
  cases hi : inM K.n at_
  · have HR := Lib.hid (show loadsM K at_ S = (S, 15) by unfold loadsM; rw [hi]; rfl)
    go_wp2_with fail
    go_ret
    rw [HR.out]
    exact ⟨rfl, H1.out, HO1.out⟩
  · have HR := Lib.hid (show loadsM K at_ S = pushM K (loadM K.n S.ws at_) S by unfold loadsM; rw [hi]; rfl)
    generalize loadM K.n S.ws at_ = x at *
    go_wp2_with fail
    refine (push_any K HK.out S HS.out x HL.out _ H1.out).mono ?_
    rintro e w2 ⟨rfl, h2, ho2⟩
    go_wp2_with fail
    go_ret
    rw [HR.out]
    exact ⟨rfl, h2, HO1.out.trans ho2⟩
/-- Whether a module has a procedure. -/
theorem procs_any (K : MK) (S : St) (m p : Int) (h0 : 0 ≤ m) (h1 : m < K.mods.length) (W : World) (h : At K S W) : Calls Tryz.prog 138 #[.pointer (some ⟨K.b, 0, none⟩), .int .i64 m, .int .i64 p] W (fun e w' => e = .returned (.bool (decide (p < (K.mods.getD m.toNat default).procs.length))) ∧ W = w') := by
  have c1 := h.c1
  have hlt := h.lt
  obtain ⟨mb, mo, hmA, hmb, mt, hMI, _, kc, _⟩ := (h.mods.reads (mask_reads _ _)).at_ (j := m.toNat) (by omega)
  rw [hmA] at c1
  clear h hmA hMI
  generalize (K.mods.getD m.toNat default).procs.length = npl at *
  go_enter Tryz.func138, Tryz.ntmps138
  go_wp2_with fail
  go_ret
  exact ⟨rfl, rfl⟩
def marksM (K : MK) (S : St) : St × Nat := pushAll K (List.replicate 5 0) S
set_option maxHeartbeats 1000000 in
theorem mark_any (K : MK) (k : KOk K) (S : St) (s : SOk K S) (W : World) (h : At K S W) : Calls Tryz.prog 71 #[.pointer (some ⟨K.b, 0, none⟩)] W (OpEnd K W (marksM K S)) := by
  have HA := Lib.hid h
  have HS := Lib.hid s
  have HX := Lib.hid (show marksM K S = pushAll K (List.replicate 5 0) S from rfl)
  clear h s
  go_enter Tryz.func71, Tryz.ntmps71
  go_wp2_with fail
  go_loopg [4] (5) (fun g i wr => ∃ (j : Nat) (S2 : St), j + g = 5 ∧ i = .int .i64 j ∧ At K S2 wr ∧ SOk K S2 ∧ Only K.bs W wr ∧ marksM K S = pushAll K (List.replicate (5 - j) 0) S2)
  case atStart => exact ⟨0, S, by omega, rfl, HA.out, HS.out, Only.refl _ _, HX.out⟩
  case round =>
    clear HA HS HX
    obtain ⟨j, S2, hj, rfl, hA2, hS2, ho2, hX2⟩ := hrel
    have H2 := Lib.hid hA2
    have HO2 := Lib.hid ho2
    have HS2 := Lib.hid hS2
    have HX2 := Lib.hid hX2
    clear hA2 hS2 ho2 hX2
    by_cases hlt : j < 5
    · have hjI : (j : Int) < 5 := by omega
      have HX3 := Lib.hid (show marksM K S = if (pushM K 0 S2).2 ≠ 0 then pushM K 0 S2 else pushAll K (List.replicate (5 - (j + 1)) 0) (pushM K 0 S2).1 by
        rw [HX2.out, show 5 - j = (5 - (j + 1)) + 1 by omega, List.replicate_succ]
        rfl)
      clear HX2
      go_wp2_with fail
      refine (push_any K k S2 HS2.out 0 (by omega) _ H2.out).mono ?_
      rintro e w5 ⟨rfl, h5, ho5⟩
      have HSP := Lib.hid (pushM_ok k HS2.out 0)
      have HO5 := Lib.hid (HO2.out.trans ho5)
      have H5 := Lib.hid h5
      clear h5 ho5 H2
      generalize pushM K 0 S2 = r2 at *
      obtain ⟨S3, t3⟩ := r2
      simp only at HSP H5 HX3
      by_cases ht3 : t3 = 0
      · subst ht3
        have HX4 := Lib.hid (show marksM K S = pushAll K (List.replicate (5 - (j + 1)) 0) S3 by rw [HX3.out, if_neg (by simp)])
        clear HX3
        go_wp2_with fail
        go_roundg (gk - 1)
        case measure => omega
        case rel => exact ⟨j + 1, S3, by omega, by go_num, H5.out, HSP.out, HO5.out, HX4.out⟩
      · have d := bne_iff_ne.2 (show (t3 : Int) ≠ 0 by omega)
        have HX4 := Lib.hid (show marksM K S = (S3, t3) by rw [HX3.out, if_pos (by simpa using ht3)])
        clear HX3
        go_wp2_with fail
        go_ret
        rw [HX4.out]
        exact ⟨rfl, H5.out, HO5.out⟩
    · obtain rfl : j = 5 := by omega
      have HX4 := Lib.hid (show marksM K S = (S2, 0) by rw [HX2.out]; rfl)
      clear HX2
      go_wp2_with fail
      go_ret
      rw [HX4.out]
      exact ⟨rfl, H2.out, HO2.out⟩
end Go.Proofs.YtpfcojnkflcnoaaGreatDoor
/- A machine's frame so many levels out. Condition: what lies in memory can lie there. -/
namespace Go.Proofs.YtpfcojnkflcnoaaGreatDoor
open Go.RowKit
set_option maxRecDepth 100000
attribute [local go_sem ↓] Go.wp_at_zero Go.wp_at_succ

def outL (K : MK) (ws : Nat → Nat) : Nat → Int → Int × Nat
  | 0, fp => (fp, 0)
  | n + 1, fp => if (loadM K.n ws fp : Int) < K.low ∨ fp ≤ (loadM K.n ws fp : Int) then (0, 13) else outL K ws n (loadM K.n ws fp)
def outM (K : MK) (l : Nat) (S : St) : Int × Nat := if (hereP K S).level ≤ l then (0, 13) else outL K S.ws l S.fp
def OutEnd (W : World) (r : Int × Nat) (e : Ending) (w' : World) : Prop := e = .returned (.tuple #[.int .i64 r.1, .int .u8 (r.2 : Nat)]) ∧ Below W.heap.size W w'
theorem outL_le (K : MK) (ws : Nat → Nat) (hw : ∀ i, ws i < 65536) : ∀ (n : Nat) (fp : Int), 0 ≤ fp → fp ≤ 65536 → 0 ≤ (outL K ws n fp).1 ∧ (outL K ws n fp).1 ≤ 65536
  | 0, fp, h0, h1 => ⟨h0, h1⟩
  | n + 1, fp, h0, h1 => by
    unfold outL
    split
    · exact ⟨by decide, by decide⟩
    · exact outL_le K ws hw n _ (by omega) (by have := loadM_lt (n := K.n) hw fp; omega)
set_option maxHeartbeats 1000000 in
theorem out_frame (K : MK) (k : KOk K) (S : St) (s : SOk K S) (l : Nat) (hl : l ≤ 1000000) (W : World) (h : At K S W) : Calls Tryz.prog 124 #[.pointer (some ⟨K.b, 0, none⟩), .int .i64 l] W (OutEnd W (outM K l S)) := by
  have HS := Lib.hid s
  have H := Lib.hid h
  have c13 := h.c13
  have hlt := h.lt
  have HF := Lib.hid (show 0 ≤ S.fp ∧ S.fp ≤ 65536 from by
    have h1 := k.low1; have h2 := s.fp1; have h3 := s.top; have h4 := k.high; have h5 := k.n_le
    have h6 := (hereOk k s.toROk)
    unfold baseN at h3
    omega)
  have hlow := k.low1
  have HR0 := Lib.hid (show outM K l S = if (hereP K S).level ≤ l then (0, 13) else outL K S.ws l S.fp from rfl)
  have hv := (hereOk k s.toROk).2.2.2.2.1
  generalize hp : hereP K S = p at *
  obtain ⟨pa, pp, pl, pd, pv, pf⟩ := p
  have HP := Lib.hid hp
  simp only at hv HR0
  obtain ⟨hv0, hv1⟩ := hv
  clear h s hp
  go_enter Tryz.func124, Tryz.ntmps124
  go_wp2_with fail
  refine (here_eq H.out HS.out.toROk HP.out).mono ?_
  rintro e w1 ⟨rfl, hb1⟩
  have H1 := Lib.hid (H.out.grow hb1)
  have HB1 := Lib.hid hb1
  clear hb1 H c13 hlt
  have fld : ∀ w, (Instr.field 69 (.agg #[.int .i64 pa, .int .i64 pp, .int .i64 pl, .int .i64 pd, .int .i64 pv, .bool pf]) 4).run Tryz.prog w = .ok (.int .i64 pv) w := fun _ => by kernel_rfl
  by_cases hlv : pv ≤ (l : Int)
  · have HR := Lib.hid (show outM K l S = (0, 13) by rw [HR0.out, if_pos hlv])
    have d0 := decide_eq_true hlv
    go_wp2_with fail
    go_ret2
    rw [HR.out]
    exact ⟨rfl, HB1.out⟩
  · have hlv' : (l : Int) < pv := by omega
    have hl16 : (l : Int) ≤ 16 := by omega
    have HX := Lib.hid (show outM K l S = outL K S.ws l S.fp by rw [HR0.out, if_neg hlv])
    have d0 : decide (pv ≤ (l : Int)) = false := decide_eq_false hlv
    clear hlv HR0
    go_wp2_with fail
    clear fld d0
    go_loopg [6, 19] (l) (fun g u i wr => ∃ (j : Nat) (fp : Int), j + g = l ∧ u = .int .i64 fp ∧ i = .int .i64 j ∧ At K S wr ∧ Below W.heap.size W wr ∧ (0 ≤ fp ∧ fp ≤ 65536) ∧ outM K l S = outL K S.ws (l - j) fp)
    case atStart => exact ⟨0, S.fp, by omega, rfl, rfl, H1.out, HB1.out, HF.out, HX.out⟩
    case round =>
      clear HX HF H1 HB1
      obtain ⟨j, fp, hj, rfl, rfl, hA, hB, ⟨hf0, hf1⟩, hX⟩ := hrel
      have HA := Lib.hid hA
      have HB := Lib.hid hB
      have HX := Lib.hid hX
      have c3 := hA.c3
      have hlt := hA.lt
      clear hA hB hX
      by_cases hjl : j < l
      · have hjI : (j : Int) < (l : Int) := by omega
        go_wp2_with fail
        refine (load_any K.bm K.n S.ws fp _ HA.out.mem).mono ?_
        rintro e w2 ⟨rfl, hb2⟩
        have HX2 := Lib.hid (show outM K l S = if (loadM K.n S.ws fp : Int) < K.low ∨ fp ≤ (loadM K.n S.ws fp : Int) then (0, 13) else outL K S.ws (l - (j + 1)) (loadM K.n S.ws fp) by
          rw [HX.out, show l - j = (l - (j + 1)) + 1 by omega]; rfl)
        have HL := Lib.hid (loadM_lt (n := K.n) HA.out.mem.small fp)
        have HA2 := Lib.hid (HA.out.grow hb2)
        have HB2 := Lib.hid (HB.out.trans (hb2.mono HB.out.size))
        clear hb2 HA HB HX c3 hlt
        generalize loadM K.n S.ws fp = x at *
        have hxl := HL.out
        have hxI : (x : Int) ≤ 65535 := by omega
        have c7 := HA2.out.c7
        have hlt := HA2.out.lt
        by_cases hc : (x : Int) < K.low ∨ fp ≤ (x : Int)
        · have HX3 := Lib.hid (show outM K l S = (0, 13) by rw [HX2.out, if_pos hc])
          clear HX2
          by_cases hc1 : (x : Int) < K.low
          · have d1 : decide ((x : Int) < K.low) = true := decide_eq_true hc1
            go_wp2_with fail
            go_ret2
            rw [HX3.out]
            exact ⟨rfl, HB2.out⟩
          · have hc2 : fp ≤ (x : Int) := by omega
            have d1 : decide ((x : Int) < K.low) = false := decide_eq_false hc1
            clear hc
            go_wp2_with fail
            go_ret2
            rw [HX3.out]
            exact ⟨rfl, HB2.out⟩
        · have HX3 := Lib.hid (show outM K l S = outL K S.ws (l - (j + 1)) x by rw [HX2.out, if_neg hc])
          have d1 : decide ((x : Int) < K.low) = false := decide_eq_false (by omega)
          have d2 : decide (fp ≤ (x : Int)) = false := decide_eq_false (by omega)
          clear HX2 hc
          go_wp2_with fail
          go_roundg (gk - 1)
          case measure => omega
          case rel => exact ⟨j + 1, x, by omega, rfl, by go_num, HA2.out, HB2.out, ⟨by omega, by omega⟩, HX3.out⟩
      · obtain rfl : j = l := by omega
        have HX2 := Lib.hid (show outM K j S = (fp, 0) by rw [HX.out, Nat.sub_self]; rfl)
        go_wp2_with fail
        go_ret2
        rw [HX2.out]
        exact ⟨rfl, HB.out⟩
end Go.Proofs.YtpfcojnkflcnoaaGreatDoor
/- A machine enters a procedure. Condition: what lies in memory can lie there. -/
namespace Go.Proofs.YtpfcojnkflcnoaaGreatDoor
open Go.RowKit
set_option maxRecDepth 100000
attribute [local go_sem ↓] Go.wp_at_zero Go.wp_at_succ

def procOf (K : MK) (m p : Int) : ProcL := (K.mods.getD m.toNat default).procs.getD p.toNat default
def enterAt (K : MK) (m p : Int) (S : St) : Int := S.sp - (procOf K m p).params - 5
def enterM (K : MK) (m p static : Int) (S : St) : St × Nat :=
  if enterAt K m p S < floorN K S then (S, 14)
  else if K.high < enterAt K m p S + baseN (procOf K m p) + (procOf K m p).depth then (S, 11)
  else (frameM K (enterAt K m p S) (procOf K m p).params static S.fp S.mod S.next S.proc { S with mod := m, proc := p }, 0)
set_option maxHeartbeats 4000000 in
theorem enter_any (K : MK) (k : KOk K) (S : St) (s : SOk K S) (m p static : Int) (hm0 : 0 ≤ m) (hm1 : m < K.mods.length) (hp0 : 0 ≤ p) (hp1 : p < (K.mods.getD m.toNat default).procs.length) (hd0 : 0 ≤ S.depth) (hd1 : S.depth ≤ 1000000000) (W : World) (h : At K S W) :
    Calls Tryz.prog 139 #[.pointer (some ⟨K.b, 0, none⟩), .int .i64 m, .int .i64 p, .int .i64 static] W (OpEnd K W (enterM K m p static S)) := by
  have HK := Lib.hid k
  have HS := Lib.hid s
  have H := Lib.hid h
  have c1 := h.c1
  have hlt := h.lt
  have hpm : procOf K m p ∈ (K.mods.getD m.toNat default).procs := getD_mem' _ _ _ (by omega)
  have hmm : K.mods.getD m.toNat default ∈ K.mods := getD_mem' _ _ _ (by omega)
  obtain ⟨⟨q0, q1⟩, ⟨q2, q3⟩, ⟨q4, q5⟩, ⟨q6, q7⟩, ⟨q8, q9⟩, _⟩ := procOk k hmm hpm
  obtain ⟨⟨u0, u1⟩, ⟨u2, u3⟩, ⟨u4, u5⟩, ⟨u6, u7⟩, ⟨u8, u9⟩, _⟩ := hereOk k s.toROk
  have l1 := k.low1
  have l2 := s.fp1
  have l3 := s.sp0
  have l4 := s.sp1
  have l5 := s.top
  have l6 := k.high
  have l7 := k.n_le
  have HRk := Lib.hid (show ROk K { S with mod := m, proc := p } from ⟨hm0, hm1, hp0, by simpa [modOf] using hp1⟩)
  have HR0 := Lib.hid (show enterM K m p static S = if S.sp - (procOf K m p).params - 5 < S.fp + baseN (hereP K S) then (S, 14)
    else if K.high < S.sp - (procOf K m p).params - 5 + baseN (procOf K m p) + (procOf K m p).depth then (S, 11)
    else (frameM K (S.sp - (procOf K m p).params - 5) (procOf K m p).params static S.fp S.mod S.next S.proc { S with mod := m, proc := p }, 0) from rfl)
  obtain ⟨mb, mo, hmA, hmb, mt, hMI, _, kc, _⟩ := (h.mods.reads (mask_reads _ _)).at_ (j := m.toNat) (by omega)
  obtain ⟨pb, po, hpA, hpb, hP⟩ := hMI.procs.at_ (j := p.toNat) (by omega)
  have hP' : ProcAt W pb (po + p.toNat * 6) (procOf K m p) := hP
  clear hP hMI hpm hmm
  rw [hmA] at c1
  rw [hpA] at kc
  clear hmA hpA
  generalize (K.mods.getD m.toNat default).procs.length = npl at *
  generalize procOf K m p = pr at *
  obtain ⟨pa, pp, pl, pd, pv, pf⟩ := pr
  obtain ⟨r0, r1, r2, r3, r4, r5⟩ := hP'
  generalize hh : hereP K S = ph at *
  obtain ⟨ha, hpp, hl, hd, hv, hf⟩ := ph
  have HH := Lib.hid hh
  unfold baseN at HR0 l3 l4 l5
  simp only at q0 q1 q2 q3 q4 q5 q6 q7 q8 q9 u0 u1 u2 u3 u4 u5 u6 u7 u8 u9 HR0 r0 r1 r2 r3 r4 r5 l3 l4 l5
  clear h k s hh
  go_enter Tryz.func139, Tryz.ntmps139
  go_upto_region 2 with (fail)
  have HX1 := Lib.hid (Bx.new W #[.int .i64 pa, .int .i64 pp, .int .i64 pl, .int .i64 pd, .int .i64 pv, .bool pf] 69)
  have H1 := Lib.hid (H.out.grow (alloc_below W (.cells #[.int .i64 pa, .int .i64 pp, .int .i64 pl, .int .i64 pd, .int .i64 pv, .bool pf] 69)))
  have HO1 := Lib.hid (Only.of_below (bs := K.bs) (alloc_below W (.cells #[.int .i64 pa, .int .i64 pp, .int .i64 pl, .int .i64 pd, .int .i64 pv, .bool pf] 69)))
  have HNb := Lib.hid (show W.heap.size ≠ K.b from fun e => by omega)
  have HNs := Lib.hid (show W.heap.size ∉ K.bs from fun hm => by have := H.out.old _ hm; omega)
  clear c1 kc r0 r1 r2 r3 r4 r5 H
  generalize W.alloc (.cells #[.int .i64 pa, .int .i64 pp, .int .i64 pl, .int .i64 pd, .int .i64 pv, .bool pf] 69) = w1 at *
  generalize hg : W.heap.size = bp at *
  clear hg
  have k14 := H1.out.c14
  have s0 := H1.out.lt
  have s1 := HX1.out.lt
  obtain ⟨r0, r1, r2, r3, r4, r5⟩ := proc_cells HX1.out
  have e1 : IntKind.i64.wrap (S.sp - pp) = S.sp - pp := IntWalk.i64_in _ (by omega)
  have e2 : IntKind.i64.wrap (S.sp - pp - 5) = S.sp - pp - 5 := IntWalk.i64_in _ (by omega)
  refine wp_region_grow (by kernel_rfl) (by kernel_rfl) ?_
  repeat (first | go_big_quiet_step (fail))
  refine wpQuiet_nil ?_
  rintro _ ⟨gx, rfl⟩
  have H2 := Lib.hid (H1.out.grow (growN_below w1 gx))
  have HO2 := Lib.hid (HO1.out.trans (Only.of_below (bs := K.bs) (growN_below w1 gx)))
  have HX2 := Lib.hid (HX1.out.grow (growN_below w1 gx))
  clear H1 HO1 HX1 k14 s0 s1 r0 r1 r2 r3 r4 r5 e1 e2
  generalize growN w1 gx = w2 at *
  go_upto_region 3 with (fail)
  have HG := Lib.hid (show ∀ x, At K S (growN w2 x) from fun x => H2.out.grow (growN_below w2 x))
  have k13 := H2.out.c13
  have s0 := H2.out.lt
  have e1 : IntKind.i64.wrap (S.fp + (5 + hpp + hl)) = S.fp + (5 + hpp + hl) := IntWalk.i64_in _ (by omega)
  refine wp_region_grow (by kernel_rfl) (by kernel_rfl) ?_
  repeat (first | go_big_quiet_step (first
    | (go_at_call 112; refine quiet_grow (here_eq (HG.out _) HS.out.toROk HH.out))
    | (go_at_call 48; refine quiet_grow (base_eq (by omega) (by omega) (by omega) (by omega) rfl))))
  refine wpQuiet_nil ?_
  rintro _ ⟨gy, rfl⟩
  have H3 := Lib.hid (HG.out gy)
  have HO3 := Lib.hid (HO2.out.trans (Only.of_below (bs := K.bs) (growN_below w2 gy)))
  have HX3 := Lib.hid (HX2.out.grow (growN_below w2 gy))
  clear H2 HO2 HX2 k13 s0 e1 HG
  generalize growN w2 gy = w3 at *
  by_cases ht : S.sp - pp - 5 < S.fp + (5 + hpp + hl)
  · have HR := Lib.hid (show enterM K m p static S = (S, 14) by rw [HR0.out, if_pos ht])
    have d0 := decide_eq_true ht
    go_wp2_with fail
    go_ret
    rw [HR.out]
    exact ⟨rfl, H3.out, HO3.out⟩
  have d0 : decide (S.sp - pp - 5 < S.fp + (5 + hpp + hl)) = false := decide_eq_false ht
  have HR1 := Lib.hid (show enterM K m p static S = if K.high < S.sp - pp - 5 + (5 + pp + pl) + pd then (S, 11) else (frameM K (S.sp - pp - 5) pp static S.fp S.mod S.next S.proc { S with mod := m, proc := p }, 0) by rw [HR0.out, if_neg ht])
  have hat : S.fp + (5 + hpp + hl) ≤ S.sp - pp - 5 := by omega
  clear HR0 ht
  go_upto_region 5 with (fail)
  clear d0
  have k8 := H3.out.c8
  have s0 := H3.out.lt
  have s1 := HX3.out.lt
  obtain ⟨r0, r1, r2, r3, r4, r5⟩ := proc_cells HX3.out
  have e1 : IntKind.i64.wrap (S.sp - pp - 5 + (5 + pp + pl)) = S.sp - pp - 5 + (5 + pp + pl) := IntWalk.i64_in _ (by omega)
  have e2 : IntKind.i64.wrap (S.sp - pp - 5 + (5 + pp + pl) + pd) = S.sp - pp - 5 + (5 + pp + pl) + pd := IntWalk.i64_in _ (by omega)
  refine wp_region_grow (by kernel_rfl) (by kernel_rfl) ?_
  repeat (first | go_big_quiet_step (first
    | (go_at_call 48; refine quiet_grow (base_eq (by omega) (by omega) (by omega) (by omega) rfl))))
  refine wpQuiet_nil ?_
  rintro _ ⟨gz, rfl⟩
  have H4 := Lib.hid (H3.out.grow (growN_below w3 gz))
  have HO4 := Lib.hid (HO3.out.trans (Only.of_below (bs := K.bs) (growN_below w3 gz)))
  have HX4 := Lib.hid (HX3.out.grow (growN_below w3 gz))
  clear H3 HO3 HX3 k8 s0 s1 r0 r1 r2 r3 r4 r5 e1 e2
  generalize growN w3 gz = w4 at *
  by_cases ht : K.high < S.sp - pp - 5 + (5 + pp + pl) + pd
  · have HR := Lib.hid (show enterM K m p static S = (S, 11) by rw [HR1.out, if_pos ht])
    have d0 := decide_eq_true ht
    go_wp2_with fail
    go_ret
    rw [HR.out]
    exact ⟨rfl, H4.out, HO4.out⟩
  have d0 : decide (K.high < S.sp - pp - 5 + (5 + pp + pl) + pd) = false := decide_eq_false ht
  have HR := Lib.hid (show enterM K m p static S = (frameM K (S.sp - pp - 5) pp static S.fp S.mod S.next S.proc { S with mod := m, proc := p }, 0) by rw [HR1.out, if_neg ht])
  have hnt : S.sp - pp - 5 + (5 + pp + pl) + pd ≤ K.high := by omega
  clear HR1 ht
  go_wp2_with fail
  clear d0
  have k12 := H4.out.c13
  have k9 := H4.out.c10
  have k10 := H4.out.c11
  have k14 := H4.out.c15
  have s0 := H4.out.lt
  go_region_held3 (fun W' => W'.cell? ⟨K.b, 13, none⟩ = some (.int .i64 S.fp) ∧ W'.cell? ⟨K.b, 10, none⟩ = some (.int .i64 S.mod) ∧ W'.cell? ⟨K.b, 15, none⟩ = some (.int .i64 S.next) ∧ W'.cell? ⟨K.b, 11, none⟩ = some (.int .i64 S.proc)) (go_keep) (fail)
  have HBa := Lib.hid ((alloc_below w4 (.cells #[.int .i64 static, .int .i64 S.fp, .int .i64 S.mod, .int .i64 S.next, .int .i64 S.proc] 118)).trans ((drew_below (w4.alloc (.cells #[.int .i64 static, .int .i64 S.fp, .int .i64 S.mod, .int .i64 S.next, .int .i64 S.proc] 118))).mono (by simp)))
  have H5 := Lib.hid (H4.out.grow HBa.out)
  have HO5 := Lib.hid (HO4.out.trans (Only.of_below (bs := K.bs) HBa.out))
  have HX5 := Lib.hid (HX4.out.grow HBa.out)
  have HZ5 := Lib.hid ((Bx.new w4 #[.int .i64 static, .int .i64 S.fp, .int .i64 S.mod, .int .i64 S.next, .int .i64 S.proc] 118).grow (drew_below (w4.alloc (.cells #[.int .i64 static, .int .i64 S.fp, .int .i64 S.mod, .int .i64 S.next, .int .i64 S.proc] 118))))
  have hzb : w4.heap.size ≠ K.b := by omega
  have hzm : w4.heap.size ∉ K.bs := fun hm => by have := H4.out.old _ hm; omega
  clear H4 HO4 HX4 k12 k9 k10 k14 s0 HBa
  go_upto_region 8 with (fail)
  generalize (w4.alloc (.cells #[.int .i64 static, .int .i64 S.fp, .int .i64 S.mod, .int .i64 S.next, .int .i64 S.proc] 118)).drew = w5 at *
  generalize w4.heap.size = zp at *
  have k10 := H5.out.c10
  have k11 := H5.out.c11
  have fz := H5.out.fz
  have s0 := H5.out.lt
  have H6 := Lib.hid ((H5.out.set_mod HK.out m).set_proc HK.out p)
  have HO6 := Lib.hid ((HO5.out.setCell (a := ⟨K.b, 10, none⟩) HK.out.hb (.int .i64 m)).setCell (a := ⟨K.b, 11, none⟩) HK.out.hb (.int .i64 p))
  have HX6 := Lib.hid ((HX5.out.far (a := ⟨K.b, 10, none⟩) HNb.out (.int .i64 m)).far (a := ⟨K.b, 11, none⟩) HNb.out (.int .i64 p))
  have HZ6 := Lib.hid ((HZ5.out.far (a := ⟨K.b, 10, none⟩) hzb (.int .i64 m)).far (a := ⟨K.b, 11, none⟩) hzb (.int .i64 p))
  go_upto_region 9 with (fail)
  clear k10 k11 fz s0 H5 HO5 HX5 HZ5
  generalize (w5.setCell ⟨K.b, 10, none⟩ (.int .i64 m)).setCell ⟨K.b, 11, none⟩ (.int .i64 p) = w6 at *
  obtain ⟨r0, r1, r2, r3, r4, r5⟩ := proc_cells HX6.out
  have z0 : w6.cell? ⟨zp, 0, none⟩ = some (.int .i64 static) := (HZ6.out.cell 0).trans rfl
  have z1 : w6.cell? ⟨zp, 1, none⟩ = some (.int .i64 S.fp) := (HZ6.out.cell 1).trans rfl
  have z2 : w6.cell? ⟨zp, 2, none⟩ = some (.int .i64 S.mod) := (HZ6.out.cell 2).trans rfl
  have z3 : w6.cell? ⟨zp, 3, none⟩ = some (.int .i64 S.next) := (HZ6.out.cell 3).trans rfl
  have z4 : w6.cell? ⟨zp, 4, none⟩ = some (.int .i64 S.proc) := (HZ6.out.cell 4).trans rfl
  have s1 := HX6.out.lt
  have s2 := HZ6.out.lt
  go_wp2_with fail
  refine (frame_any K HK.out { S with mod := m, proc := p } HRk.out (S.sp - pp - 5) pp static S.fp S.mod S.next S.proc (by omega) (by omega) (by omega) (by omega) hd0 hd1 _ H6.out).mono ?_
  rintro e w7 ⟨rfl, h7, ho7⟩
  go_wp2_with fail
  go_ret
  rw [HR.out]
  exact ⟨rfl, h7, HO6.out.trans ho7⟩
end Go.Proofs.YtpfcojnkflcnoaaGreatDoor
/- A machine calls a procedure of the module that runs. Condition: what lies in memory can lie there. -/
namespace Go.Proofs.YtpfcojnkflcnoaaGreatDoor
open Go.RowKit
set_option maxRecDepth 100000
attribute [local go_sem ↓] Go.wp_at_zero Go.wp_at_succ

def callM (K : MK) (S : St) : St × Nat :=
  if ((modOf K S).procs.length : Int) ≤ S.args.getD 1 0 then (S, 13)
  else if (procOf K S.mod (S.args.getD 1 0)).level ≠ (hereP K S).level + 1 - S.args.getD 0 0 then (S, 13)
  else if 1 < (procOf K S.mod (S.args.getD 1 0)).level then
    if (outM K (S.args.getD 0 0).toNat S).2 ≠ 0 then (S, (outM K (S.args.getD 0 0).toNat S).2) else enterM K S.mod (S.args.getD 1 0) (outM K (S.args.getD 0 0).toNat S).1 S
  else enterM K S.mod (S.args.getD 1 0) 0 S
theorem procs_yes (K : MK) (S : St) (m p : Int) (h0 : 0 ≤ m) (h1 : m < K.mods.length) (hp : p < (K.mods.getD m.toNat default).procs.length) (W : World) (h : At K S W) : Calls Tryz.prog 138 #[.pointer (some ⟨K.b, 0, none⟩), .int .i64 m, .int .i64 p] W (fun e w' => e = .returned (.bool true) ∧ Below W.heap.size W w') :=
  (procs_any K S m p h0 h1 W h).mono fun e w' ⟨he, hw⟩ => ⟨by rw [he, decide_eq_true hp], by rw [← hw]; exact Below.refl _ _⟩
theorem procs_no (K : MK) (S : St) (m p : Int) (h0 : 0 ≤ m) (h1 : m < K.mods.length) (hp : ¬ p < (K.mods.getD m.toNat default).procs.length) (W : World) (h : At K S W) : Calls Tryz.prog 138 #[.pointer (some ⟨K.b, 0, none⟩), .int .i64 m, .int .i64 p] W (fun e w' => e = .returned (.bool false) ∧ Below W.heap.size W w') :=
  (procs_any K S m p h0 h1 W h).mono fun e w' ⟨he, hw⟩ => ⟨by rw [he, decide_eq_false hp], by rw [← hw]; exact Below.refl _ _⟩
/-- A procedure's cells, in the module that runs. -/
theorem level_cell {K : MK} {S : St} {W : World} (h : At K S W) (s : ROk K S) {p : Int} (hp0 : 0 ≤ p) (hp1 : p < (modOf K S).procs.length) : ∃ mb mo pb po pc, W.cell? ⟨K.b, 1, none⟩ = some (.slice (some ⟨mb, mo, none⟩) K.mods.length K.pc) ∧ mb < W.heap.size ∧ W.cell? ⟨mb, mo + S.mod.toNat * 5 + 1, none⟩ = some (.slice (some ⟨pb, po, none⟩) (modOf K S).procs.length pc) ∧ pb < W.heap.size ∧
    W.cell? ⟨pb, po + p.toNat * 6 + 4, none⟩ = some (.int .i64 (procOf K S.mod p).level) := by
  have hm := s.mod0
  have hm1 := s.mod1
  obtain ⟨mb, mo, hmA, hmb, mt, hMI, _, kc, _⟩ := (h.mods.reads (mask_reads _ _)).at_ (j := S.mod.toNat) (by omega)
  obtain ⟨pb, po, hpA, hpb, hP⟩ := hMI.procs.at_ (j := p.toNat) (by unfold modOf at hp1; omega)
  have c1 := h.c1
  rw [hmA] at c1
  rw [hpA] at kc
  obtain ⟨_, _, _, _, r4, _⟩ := hP
  exact ⟨mb, mo, pb, po, _, c1, hmb, kc, hpb, r4⟩
set_option maxHeartbeats 4000000 in
theorem call_any (K : MK) (k : KOk K) (S : St) (s : SOk K S) (ha : 1 < S.args.length) (hl0 : 0 ≤ S.args.getD 0 0) (hl1 : S.args.getD 0 0 ≤ 1000000) (hq0 : 0 ≤ S.args.getD 1 0) (_hq1 : S.args.getD 1 0 ≤ 1000000) (hd0 : 0 ≤ S.depth) (hd1 : S.depth ≤ 1000000000) (W : World) (h : At K S W) :
    Calls Tryz.prog 72 #[.pointer (some ⟨K.b, 0, none⟩)] W (OpEnd K W (callM K S)) := by
  have HK := Lib.hid k
  have HS := Lib.hid s
  have H := Lib.hid h
  have m0 := s.mod0
  have m1 := s.mod1
  have hrv := (hereOk k s.toROk).2.2.2.2.1
  have HR0 := Lib.hid (show callM K S = if ((modOf K S).procs.length : Int) ≤ S.args.getD 1 0 then (S, 13)
    else if (procOf K S.mod (S.args.getD 1 0)).level ≠ (hereP K S).level + 1 - S.args.getD 0 0 then (S, 13)
    else if 1 < (procOf K S.mod (S.args.getD 1 0)).level then
      if (outM K (S.args.getD 0 0).toNat S).2 ≠ 0 then (S, (outM K (S.args.getD 0 0).toNat S).2) else enterM K S.mod (S.args.getD 1 0) (outM K (S.args.getD 0 0).toNat S).1 S
    else enterM K S.mod (S.args.getD 1 0) 0 S from rfl)
  obtain ⟨ab, ao, ac, c16, hab, a0c⟩ := h.arg (j := 0) (by omega)
  obtain ⟨ab', ao', ac', c16', hab', a1c⟩ := h.arg (j := 1) ha
  have e := c16.symm.trans c16'
  injection e with e
  injection e with e _ e2
  injection e with e
  injection e with e3 e4
  subst e3 e4
  simp only [Nat.add_zero] at a0c
  have hal : (1 : Int) < (S.args.length : Int) := by omega
  have hal0 : (0 : Int) < (S.args.length : Int) := by omega
  have hc10 := h.c10
  have hlt := h.lt
  generalize ha0 : S.args.getD 0 0 = l at *
  generalize ha1 : S.args.getD 1 0 = q at *
  clear h k s ha0 ha1 c16' hab' e2 ha
  go_enter Tryz.func72, Tryz.ntmps72
  go_wp2_with fail
  refine wp_region_grow (by kernel_rfl) (by kernel_rfl) ?_
  repeat (first | go_big_quiet_step (fail))
  refine wpQuiet_nil ?_
  rintro _ ⟨gx, rfl⟩
  have H1 := Lib.hid (H.out.grow (growN_below W gx))
  have HO1 := Lib.hid (Only.of_below (bs := K.bs) (growN_below W gx))
  clear H c16 hab a0c a1c hc10 hlt hal hal0
  generalize growN W gx = w1 at *
  have HG := Lib.hid (show ∀ x, At K S (growN w1 x) from fun x => H1.out.grow (growN_below w1 x))
  have k10 := H1.out.c10
  have s0 := H1.out.lt
  by_cases hq : ((modOf K S).procs.length : Int) ≤ q
  · have HR := Lib.hid (show callM K S = (S, 13) by rw [HR0.out, if_pos hq])
    have HQ := Lib.hid (show ¬ q < (K.mods.getD S.mod.toNat default).procs.length from by unfold modOf at hq; omega)
    clear HR0 hq
    go_wp2_with fail
    refine wp_region_grow (by kernel_rfl) (by kernel_rfl) ?_
    repeat (first | go_big_quiet_step (fail))
    go_big_quiet_step ((go_at_call 138; refine quiet_grow (procs_no K S S.mod q m0 m1 (by have := HQ.out; omega) _ (HG.out _))))
    repeat (first | go_big_quiet_step (fail))
    refine wpQuiet_nil ?_
    rintro _ ⟨gy, rfl⟩
    go_wp2_with fail
    go_ret
    rw [HR.out]
    exact ⟨rfl, HG.out gy, HO1.out.trans (Only.of_below (bs := K.bs) (growN_below w1 gy))⟩
  have HQ := Lib.hid (show q < (K.mods.getD S.mod.toNat default).procs.length from by unfold modOf at hq; omega)
  obtain ⟨mb, mo, pb, po, pc, c1, hmb, kc, hpb, r4⟩ := level_cell H1.out HS.out.toROk hq0 (show q < (modOf K S).procs.length by omega)
  have HR1 := Lib.hid (show callM K S = if (procOf K S.mod q).level ≠ (hereP K S).level + 1 - l then (S, 13)
    else if 1 < (procOf K S.mod q).level then
      if (outM K l.toNat S).2 ≠ 0 then (S, (outM K l.toNat S).2) else enterM K S.mod q (outM K l.toNat S).1 S
    else enterM K S.mod q 0 S by rw [HR0.out, if_neg hq])
  have hqn : q < ((modOf K S).procs.length : Int) := by omega
  clear HR0 hq
  generalize (modOf K S).procs.length = npl at *
  generalize hpl : (procOf K S.mod q).level = plv at *
  have HPL := Lib.hid hpl
  clear hpl
  generalize hh : hereP K S = ph at *
  obtain ⟨ha, hpp, hl, hd, hv, hf⟩ := ph
  have HH := Lib.hid hh
  clear hh
  simp only at hrv HR1
  obtain ⟨v0, v1⟩ := hrv
  have fld : ∀ w, (Instr.field 69 (.agg #[.int .i64 ha, .int .i64 hpp, .int .i64 hl, .int .i64 hd, .int .i64 hv, .bool hf]) 4).run Tryz.prog w = .ok (.int .i64 hv) w := fun _ => by kernel_rfl
  have e1 : IntKind.i64.wrap (hv + 1) = hv + 1 := IntWalk.i64_in _ (by omega)
  have e2 : IntKind.i64.wrap (hv + 1 - l) = hv + 1 - l := IntWalk.i64_in _ (by omega)
  go_wp2_with fail
  refine wp_region_grow (by kernel_rfl) (by kernel_rfl) ?_
  repeat (first | go_big_quiet_step (first
    | (go_at_call 138; refine quiet_grow (procs_yes K S S.mod q m0 m1 (by have := HQ.out; omega) _ (HG.out _)))
    | (go_at_call 112; refine quiet_grow (here_eq (HG.out _) HS.out.toROk HH.out))))
  refine wpQuiet_nil ?_
  rintro _ ⟨gy, rfl⟩
  have H2 := Lib.hid (HG.out gy)
  have HO2 := Lib.hid (HO1.out.trans (Only.of_below (bs := K.bs) (growN_below w1 gy)))
  clear H1 HO1 HG k10 s0 c1 hmb kc hpb r4 fld e1 e2
  generalize growN w1 gy = w2 at *
  by_cases hv1' : plv = hv + 1 - l
  rotate_left 1
  · have HR := Lib.hid (show callM K S = (S, 13) by rw [HR1.out, if_pos hv1'])
    have d0 := bne_iff_ne.2 hv1'
    go_wp2_with fail
    go_ret
    rw [HR.out]
    exact ⟨rfl, H2.out, HO2.out⟩
  have HR2 := Lib.hid (show callM K S = if 1 < plv then
      if (outM K l.toNat S).2 ≠ 0 then (S, (outM K l.toNat S).2) else enterM K S.mod q (outM K l.toNat S).1 S
    else enterM K S.mod q 0 S by rw [HR1.out, if_neg (by simpa using hv1')])
  have HV := Lib.hid hv1'
  have d0 : (plv != hv + 1 - l) = false := by rw [hv1']; simp
  clear HR1 hv1'
  go_upto_region 5 with (fail)
  clear d0
  have k10 := H2.out.c10
  have s0 := H2.out.lt
  obtain ⟨mb, mo, pb, po, pc, c1, hmb, kc, hpb, r4⟩ := level_cell H2.out HS.out.toROk hq0 (show q < (modOf K S).procs.length from by have := HQ.out; unfold modOf; omega)
  rw [HPL.out] at r4
  have hqn2 : q < ((modOf K S).procs.length : Int) := by have := HQ.out; unfold modOf; omega
  generalize (modOf K S).procs.length = npl2 at *
  refine wp_region_grow (by kernel_rfl) (by kernel_rfl) ?_
  repeat (first | go_big_quiet_step (fail))
  refine wpQuiet_nil ?_
  rintro _ ⟨gz, rfl⟩
  have H3 := Lib.hid (H2.out.grow (growN_below w2 gz))
  have HO3 := Lib.hid (HO2.out.trans (Only.of_below (bs := K.bs) (growN_below w2 gz)))
  clear H2 HO2 k10 s0 c1 hmb kc hpb r4
  generalize growN w2 gz = w3 at *
  have k10 := H3.out.c10
  have s0 := H3.out.lt
  by_cases hlv : 1 < plv
  · have HR3 := Lib.hid (show callM K S = if (outM K l.toNat S).2 ≠ 0 then (S, (outM K l.toNat S).2) else enterM K S.mod q (outM K l.toNat S).1 S by rw [HR2.out, if_pos hlv])
    clear HR2
    obtain ⟨ln, rfl⟩ := Int.eq_ofNat_of_zero_le hl0
    go_wp2_with fail
    refine (out_frame K HK.out S HS.out ln (by omega) _ H3.out).mono ?_
    rintro e w4 ⟨rfl, hb4⟩
    have H4 := Lib.hid (H3.out.grow hb4)
    have HO4 := Lib.hid (HO3.out.trans (Only.of_below (bs := K.bs) hb4))
    clear hb4 H3 HO3 k10 s0
    rw [Int.toNat_natCast] at HR3
    generalize outM K ln S = r at *
    obtain ⟨st, t⟩ := r
    simp only at HR3
    have k10 := H4.out.c10
    have s0 := H4.out.lt
    by_cases ht : t = 0
    · subst ht
      have HR := Lib.hid (show callM K S = enterM K S.mod q st S by rw [HR3.out, if_neg (by simp)])
      clear HR3
      go_wp2_with fail
      refine (enter_any K HK.out S HS.out S.mod q st m0 m1 hq0 (by have := HQ.out; omega) hd0 hd1 _ H4.out).mono ?_
      rintro e w5 ⟨rfl, h5, ho5⟩
      go_wp2_with fail
      go_ret
      rw [HR.out]
      exact ⟨rfl, h5, HO4.out.trans ho5⟩
    · have d := bne_iff_ne.2 (show (t : Int) ≠ 0 by omega)
      have HR := Lib.hid (show callM K S = (S, t) by rw [HR3.out, if_pos (by simpa using ht)])
      clear HR3
      go_wp2_with fail
      go_ret
      rw [HR.out]
      exact ⟨rfl, H4.out, HO4.out⟩
  · have hlv' : plv ≤ 1 := by omega
    have HR := Lib.hid (show callM K S = enterM K S.mod q 0 S by rw [HR2.out, if_neg hlv])
    clear HR2 hlv
    go_wp2_with fail
    refine (enter_any K HK.out S HS.out S.mod q 0 m0 m1 hq0 (by have := HQ.out; omega) hd0 hd1 _ H3.out).mono ?_
    rintro e w5 ⟨rfl, h5, ho5⟩
    go_wp2_with fail
    go_ret
    rw [HR.out]
    exact ⟨rfl, h5, HO3.out.trans ho5⟩
end Go.Proofs.YtpfcojnkflcnoaaGreatDoor
/- A machine goes back to who called. Condition: what lies in memory can lie there. -/
namespace Go.Proofs.YtpfcojnkflcnoaaGreatDoor
open Go.RowKit
set_option maxRecDepth 100000
attribute [local go_sem ↓] Go.wp_at_zero Go.wp_at_succ

/-- A module's cells: its code, its procedures; a procedure's. -/
theorem mod_cells {K : MK} {S : St} {W : World} (h : At K S W) {m p : Nat} (hm : m < K.mods.length) (hp : p < (K.mods.getD m default).procs.length) : ∃ mb mo pb po pc, W.cell? ⟨K.b, 1, none⟩ = some (.slice (some ⟨mb, mo, none⟩) K.mods.length K.pc) ∧ mb < W.heap.size ∧ W.cell? ⟨mb, mo + m * 5, none⟩ = some (.string ⟨(K.mods.getD m default).code.toArray⟩) ∧
    W.cell? ⟨mb, mo + m * 5 + 1, none⟩ = some (.slice (some ⟨pb, po, none⟩) (K.mods.getD m default).procs.length pc) ∧ pb < W.heap.size ∧ ProcAt W pb (po + p * 6) ((K.mods.getD m default).procs.getD p default) := by
  obtain ⟨mb, mo, hmA, hmb, mt, hMI, ks, kc, _⟩ := (h.mods.reads (mask_reads _ _)).at_ hm
  obtain ⟨pb, po, hpA, hpb, hP⟩ := hMI.procs.at_ hp
  have c1 := h.c1
  rw [hmA] at c1
  rw [hpA] at kc
  exact ⟨mb, mo, pb, po, _, c1, hmb, ks, kc, hpb, hP⟩
def backM (S : St) : St := { S with sp := S.fp, fp := S.ws (S.fp.toNat - 1 + 1), mod := S.ws (S.fp.toNat - 1 + 2), proc := S.ws (S.fp.toNat - 1 + 4), next := S.ws (S.fp.toNat - 1 + 3), depth := S.depth - 1 }
/-- The caller's frame is there. -/
structure BackOk (K : MK) (S : St) (is : Bool) : Prop where
  low : K.low ≤ (S.ws (S.fp.toNat - 1 + 1) : Int)
  fp : (S.ws (S.fp.toNat - 1 + 1) : Int) < S.fp
  mod : S.ws (S.fp.toNat - 1 + 2) < K.mods.length
  proc : S.ws (S.fp.toNat - 1 + 4) < (K.mods.getD (S.ws (S.fp.toNat - 1 + 2)) default).procs.length
  at_ : S.ws (S.fp.toNat - 1 + 3) ≤ (K.mods.getD (S.ws (S.fp.toNat - 1 + 2)) default).code.length
  base : (S.ws (S.fp.toNat - 1 + 1) : Int) + baseN (procOf K (S.ws (S.fp.toNat - 1 + 2) : Nat) (S.ws (S.fp.toNat - 1 + 4) : Nat)) ≤ S.fp
  top : S.fp ≤ (S.ws (S.fp.toNat - 1 + 1) : Int) + baseN (procOf K (S.ws (S.fp.toNat - 1 + 2) : Nat) (S.ws (S.fp.toNat - 1 + 4) : Nat)) + (procOf K (S.ws (S.fp.toNat - 1 + 2) : Nat) (S.ws (S.fp.toNat - 1 + 4) : Nat)).depth
  high : (S.ws (S.fp.toNat - 1 + 1) : Int) + baseN (procOf K (S.ws (S.fp.toNat - 1 + 2) : Nat) (S.ws (S.fp.toNat - 1 + 4) : Nat)) + (procOf K (S.ws (S.fp.toNat - 1 + 2) : Nat) (S.ws (S.fp.toNat - 1 + 4) : Nat)).depth ≤ K.high
  room : is = true → S.fp < (S.ws (S.fp.toNat - 1 + 1) : Int) + baseN (procOf K (S.ws (S.fp.toNat - 1 + 2) : Nat) (S.ws (S.fp.toNat - 1 + 4) : Nat)) + (procOf K (S.ws (S.fp.toNat - 1 + 2) : Nat) (S.ws (S.fp.toNat - 1 + 4) : Nat)).depth
set_option maxHeartbeats 4000000 in
theorem leave_back (K : MK) (k : KOk K) (S : St) (s : SOk K S) (is : Bool) (hf : (hereP K S).fn = is) (hB : BackOk K S is) (hd0 : -1000000000 ≤ S.depth) (hd1 : S.depth ≤ 1000000000) (W : World) (h : At K S W) :
    Calls Tryz.prog 140 #[.pointer (some ⟨K.b, 0, none⟩), .bool is] W (OpEnd K W (backM S, 0)) := by
  have l1 := k.low1
  have l5 := s.fp1
  have l6 := s.sp0
  have l7 := s.sp1
  have l8 := s.top
  have l3 := k.high
  have l4 := k.n_le
  obtain ⟨⟨_, _⟩, ⟨q2, q3⟩, ⟨q4, q5⟩, ⟨q6, q7⟩, _, _⟩ := hereOk k s.toROk
  generalize hp : hereP K S = p at *
  obtain ⟨pa, pp, pl, pd, pv, pf⟩ := p
  unfold baseN at l6 l7 l8
  simp only at l6 l7 l8 q2 q3 q4 q5 q6 q7 hf
  have HP := Lib.hid hp
  have HK := Lib.hid k
  have HS := Lib.hid s
  have H := Lib.hid h
  have hfd := field_fn pa pp pl pd pv pf
  have hne : (!pf == is) = false := by cases pf <;> cases is <;> simp_all
  have HB := Lib.hid hB
  clear hp s h k hf hB
  go_enter Tryz.func140, Tryz.ntmps140
  go_wp2_with fail
  refine (here_eq H.out HS.out.toROk HP.out).mono ?_
  rintro e w1 ⟨rfl, hb1⟩
  have H1 := Lib.hid (H.out.grow hb1)
  have HO1 := Lib.hid (Only.of_below (bs := K.bs) hb1)
  clear hb1 H
  go_wp2_with fail
  clear hne
  have h2 := H1.out.grow (drew_below w1)
  have ho2 := HO1.out.trans (Only.of_below (bs := K.bs) (drew_below w1))
  clear H1 HO1
  refine wp_region_held_drew (S := At K S) (by kernel_rfl) (by assumption) (fun hHeld => ?_)
  refine wpAnyH_take (i := 0) (v := .pointer (some ⟨K.b, 0, none⟩)) rfl (by kernel_rfl) (by kernel_rfl) (by kernel_rfl) (fun _ _ _ h => h) (Or.inl ⟨by rfl, ?_⟩) (by assumption) ?_
  · intro w hSw; go_simp
  simp only [Act.put, List.setIfInBounds_toArray]
  refine wpAnyH_take (i := 1) (v := .pointer (some ⟨K.b, 0, none⟩)) rfl (by kernel_rfl) (by kernel_rfl) (by kernel_rfl) (fun _ _ _ h => h) (Or.inl ⟨by rfl, ?_⟩) (by assumption) ?_
  · intro w hSw; go_simp
  simp only [Act.put]
  refine wpAnyH_take (i := 2) (v := .pointer (some ⟨K.b, 3, none⟩)) rfl (by kernel_rfl) (by kernel_rfl) (by kernel_rfl) (fun _ _ _ h => h) (Or.inl ⟨by rfl, ?_⟩) (by assumption) ?_
  · intro w hSw; go_simp
  simp only [Act.put]
  refine wpAnyH_take (i := 3) (v := .pointer (some ⟨K.bm, 0, none⟩)) rfl (by kernel_rfl) (by kernel_rfl) (by kernel_rfl) (fun _ _ _ h => h) (Or.inl ⟨by rfl, ?_⟩) (by assumption) ?_
  · intro w hSw; have m3 := hSw.c3; go_simp
  simp only [Act.put]
  refine wpAnyH_take (i := 4) (v := .pointer (some ⟨K.b, 0, none⟩)) rfl (by kernel_rfl) (by kernel_rfl) (by kernel_rfl) (fun _ _ _ h => h) (Or.inl ⟨by rfl, ?_⟩) (by assumption) ?_
  · intro w hSw; go_simp
  simp only [Act.put]
  refine wpAnyH_take (i := 5) (v := .pointer (some ⟨K.b, 0, none⟩)) rfl (by kernel_rfl) (by kernel_rfl) (by kernel_rfl) (fun _ _ _ h => h) (Or.inl ⟨by rfl, ?_⟩) (by assumption) ?_
  · intro w hSw; go_simp
  simp only [Act.put]
  refine wpAnyH_take (i := 6) (v := .pointer (some ⟨K.b, 13, none⟩)) rfl (by kernel_rfl) (by kernel_rfl) (by kernel_rfl) (fun _ _ _ h => h) (Or.inl ⟨by rfl, ?_⟩) (by assumption) ?_
  · intro w hSw; go_simp
  simp only [Act.put]
  refine wpAnyH_take (i := 7) (v := .int .i64 S.fp) rfl (by kernel_rfl) (by kernel_rfl) (by kernel_rfl) (fun _ _ _ h => h) (Or.inl ⟨by rfl, ?_⟩) (by assumption) ?_
  · intro w hSw; have m13 := hSw.c13; go_simp
  simp only [Act.put]
  refine wpAnyH_ready (rs := [8]) (by kernel_rfl) (by simp) ?_
  refine AllReadyH.cons rfl (fun K' hK => ?_) AllReadyH.nil
  go_simp
  refine (row_eq K.bm K.n S.ws S.fp 5 (by omega) (by omega) _ (h2.mem)).mono ?_
  rintro e w4 ⟨A4, c4, rfl, hW4, hb4⟩
  obtain ⟨b4, o4, rfl, hc4⟩ := word_cells (hW4 K.bs h2.old) (by rw [rowM_length]; omega)
  refine hK.out _ _ (h2.grow hb4) (fun hHeld4 => ?_)
  clear hK K'
  refine wpAnyH_take (i := 9) (v := .tuple #[.slice (some ⟨b4, o4, none⟩) 5 c4, .bool true]) rfl (by kernel_rfl) (by kernel_rfl) (by kernel_rfl) (fun _ _ _ h => h) (Or.inl ⟨by rfl, ?_⟩) (by assumption) ?_
  · intro w hSw; go_simp
  simp only [Act.put, List.setIfInBounds_toArray]
  refine wpAnyH_take (i := 10) (v := .slice (some ⟨b4, o4, none⟩) 5 c4) rfl (by kernel_rfl) (by kernel_rfl) (by kernel_rfl) (fun _ _ _ h => h) (Or.inl ⟨by rfl, ?_⟩) (by assumption) ?_
  · intro w hSw; go_simp
  simp only [Act.put]
  refine wpAnyH_take (i := 11) (v := .bool true) rfl (by kernel_rfl) (by kernel_rfl) (by kernel_rfl) (fun _ _ _ h => h) (Or.inl ⟨by rfl, ?_⟩) (by assumption) ?_
  · intro w hSw; go_simp
  simp only [Act.put]
  refine wpAnyH_take (i := 12) (v := .slice (some ⟨b4, o4, none⟩) 5 c4) rfl (by kernel_rfl) (by kernel_rfl) (by kernel_rfl) (fun _ _ _ h => h) (Or.inl ⟨by rfl, ?_⟩) (by assumption) ?_
  · intro w hSw; go_simp
  simp only [Act.put]
  refine wpAnyH_take (i := 13) (v := .bool true) rfl (by kernel_rfl) (by kernel_rfl) (by kernel_rfl) (fun _ _ _ h => h) (Or.inl ⟨by rfl, ?_⟩) (by assumption) ?_
  · intro w hSw; go_simp
  simp only [Act.put]
  refine wpAnyH_done (by kernel_rfl) ?_ _
  simp only [List.getElem_toArray, List.getElem_cons_succ, List.getElem_cons_zero, List.setIfInBounds_toArray, List.set_cons_zero, List.set_cons_succ]
  have H4 := Lib.hid (h2.grow hb4)
  have HO4 := Lib.hid (ho2.trans (Only.of_below (bs := K.bs) hb4))
  obtain ⟨e1, r1⟩ := hc4 1 (by rw [rowM_length]; omega)
  obtain ⟨e2, r2⟩ := hc4 2 (by rw [rowM_length]; omega)
  obtain ⟨e3, r3⟩ := hc4 3 (by rw [rowM_length]; omega)
  obtain ⟨e4, r4⟩ := hc4 4 (by rw [rowM_length]; omega)
  rw [rowM_get _ _ _ _ (by omega)] at e1 e2 e3 e4 r1 r2 r3 r4
  have hlt : b4 < w4.heap.size := lt_of_cell e1
  have HBM := Lib.hid (show backM S = { S with sp := S.fp, fp := S.ws (S.fp.toNat - 1 + 1), mod := S.ws (S.fp.toNat - 1 + 2), proc := S.ws (S.fp.toNat - 1 + 4), next := S.ws (S.fp.toNat - 1 + 3), depth := S.depth - 1 } from rfl)
  obtain ⟨z1, z2, z3, z4, z5, z6, z7, z8, z9⟩ := HB.out
  clear HB
  generalize S.ws (S.fp.toNat - 1 + 1) = x1 at *
  generalize S.ws (S.fp.toNat - 1 + 2) = x2 at *
  generalize S.ws (S.fp.toNat - 1 + 3) = x3 at *
  generalize S.ws (S.fp.toNat - 1 + 4) = x4 at *
  have v1 : IntKind.i64.wrap (x1 : Int) = x1 := IntWalk.i64_in _ (by omega)
  have v2 : IntKind.i64.wrap (x2 : Int) = x2 := IntWalk.i64_in _ (by omega)
  have v3 : IntKind.i64.wrap (x3 : Int) = x3 := IntWalk.i64_in _ (by omega)
  have v4 : IntKind.i64.wrap (x4 : Int) = x4 := IntWalk.i64_in _ (by omega)
  clear hc4 hW4 hHeld4 h2 ho2 hb4
  go_wp2_with fail
  refine wp_region_grow (by kernel_rfl) (by kernel_rfl) ?_
  repeat (first | go_big_quiet_step (fail))
  refine wpQuiet_nil ?_
  rintro _ ⟨gx, rfl⟩
  have H5 := Lib.hid (H4.out.grow (growN_below w4 gx))
  have HO5 := Lib.hid (HO4.out.trans (Only.of_below (bs := K.bs) (growN_below w4 gx)))
  clear H4 HO4 e1 e2 e3 e4 hlt v1 v2 v3 v4
  generalize growN w4 gx = w5 at *
  have n0 : ((x1 : Int) == 0) = false := beq_eq_false_iff_ne.2 (by omega)
  go_wp2_with fail
  refine wp_region_grow (by kernel_rfl) (by kernel_rfl) ?_
  repeat (first | go_big_quiet_step (fail))
  refine wpQuiet_nil ?_
  rintro _ ⟨gx, rfl⟩
  have H6 := Lib.hid (H5.out.grow (growN_below w5 gx))
  have HO6 := Lib.hid (HO5.out.trans (Only.of_below (bs := K.bs) (growN_below w5 gx)))
  clear H5 HO5 n0
  generalize growN w5 gx = w6 at *
  have HG := Lib.hid (show ∀ x, At K S (growN w6 x) from fun x => H6.out.grow (growN_below w6 x))
  obtain ⟨mb, mo, pb, po, pc, c1, hmb, ks, kc, hpb, hP⟩ := mod_cells H6.out z3 z4
  have m13 := H6.out.c13
  have m7 := H6.out.c7
  have hlt := H6.out.lt
  have hml := HK.out.mods_le
  have hxm : x2 ≤ 64 := by omega
  have d1 : decide ((x1 : Int) < K.low) = false := decide_eq_false (by omega)
  have d2 : decide (S.fp ≤ (x1 : Int)) = false := decide_eq_false (by omega)
  have d3 : decide (K.mods.length ≤ x2) = false := decide_eq_false (by omega)
  have d5 : decide ((K.mods.getD x2 default).code.length < x3) = false := decide_eq_false (by omega)
  have d6 : (x2 : Int) < (K.mods.length : Int) := by omega
  go_wp2_with fail
  refine (procs_yes K S (x2 : Int) (x4 : Int) (by omega) (by omega) (by rw [Int.toNat_natCast]; omega) _ H6.out).mono ?_
  rintro e w7 ⟨rfl, hb7⟩
  have H7 := Lib.hid (H6.out.grow hb7)
  have HO7 := Lib.hid (HO6.out.trans (Only.of_below (bs := K.bs) hb7))
  have c1 := (hb7.cell (p := ⟨K.b, 1, none⟩) hlt).trans c1
  have ks := (hb7.cell (p := ⟨mb, mo + x2 * 5, none⟩) hmb).trans ks
  have kc := (hb7.cell (p := ⟨mb, mo + x2 * 5 + 1, none⟩) hmb).trans kc
  have hP : ProcAt w7 pb (po + x4 * 6) ((K.mods.getD x2 default).procs.getD x4 default) := hP.later hb7 (Nat.le_refl _) hpb
  have hmb := Nat.lt_of_lt_of_le hmb hb7.size
  have hpb := Nat.lt_of_lt_of_le hpb hb7.size
  clear hb7 H6 HO6 HG m13 m7 hlt
  have hz4 : (x4 : Int) < ((K.mods.getD x2 default).procs.length : Int) := by omega
  have hz5 : (x3 : Int) ≤ ((K.mods.getD x2 default).code.length : Int) := by omega
  have hpe : (K.mods.getD x2 default).procs.getD x4 default = procOf K (x2 : Nat) (x4 : Nat) := by unfold procOf; rw [Int.toNat_natCast, Int.toNat_natCast]
  rw [hpe] at hP
  have hq := procOk HK.out (getD_mem' _ _ default z3) (p := (K.mods.getD x2 default).procs.getD x4 default) (getD_mem' _ _ default z4)
  rw [hpe] at hq
  clear hpe
  generalize (K.mods.getD x2 default).procs.length = npl at *
  generalize (K.mods.getD x2 default).code = code at *
  generalize procOf K (x2 : Nat) (x4 : Nat) = pr at *
  obtain ⟨ga, gp, gl, gd, gv, gf⟩ := pr
  obtain ⟨r0, r1', r2', r3', r4', r5⟩ := hP
  unfold baseN at z6 z7 z8 z9
  simp only at z6 z7 z8 z9 r0 r1' r2' r3' r4' r5 hq
  obtain ⟨⟨_, _⟩, ⟨g2, g3⟩, ⟨g4, g5⟩, ⟨g6, g7⟩, _, _⟩ := hq
  have hlt := H7.out.lt
  clear d1 d2 d3
  go_wp2_with fail
  have HX8 := Lib.hid (Bx.new w7 #[.int .i64 ga, .int .i64 gp, .int .i64 gl, .int .i64 gd, .int .i64 gv, .bool gf] 69)
  have H8 := Lib.hid (H7.out.grow (alloc_below w7 (.cells #[.int .i64 ga, .int .i64 gp, .int .i64 gl, .int .i64 gd, .int .i64 gv, .bool gf] 69)))
  have HO8 := Lib.hid (HO7.out.trans (Only.of_below (bs := K.bs) (alloc_below w7 (.cells #[.int .i64 ga, .int .i64 gp, .int .i64 gl, .int .i64 gd, .int .i64 gv, .bool gf] 69))))
  clear H7 HO7 c1 hmb ks kc hpb r0 r1' r2' r3' r4' r5 hlt
  generalize w7.alloc (.cells #[.int .i64 ga, .int .i64 gp, .int .i64 gl, .int .i64 gd, .int .i64 gv, .bool gf] 69) = w8 at *
  generalize w7.heap.size = bp at *
  have k13 := H8.out.c13
  have k8 := H8.out.c8
  have s0 := H8.out.lt
  have s1 := HX8.out.lt
  obtain ⟨r0, r1', r2', r3', r4', r5⟩ := proc_cells HX8.out
  have e1 : IntKind.i64.wrap ((x1 : Int) + (5 + gp + gl)) = (x1 : Int) + (5 + gp + gl) := IntWalk.i64_in _ (by omega)
  have e2 : IntKind.i64.wrap ((x1 : Int) + (5 + gp + gl) + gd) = (x1 : Int) + (5 + gp + gl) + gd := IntWalk.i64_in _ (by omega)
  have d1 : decide (S.fp < (x1 : Int) + (5 + gp + gl)) = false := decide_eq_false (by omega)
  have d2 : decide ((x1 : Int) + (5 + gp + gl) + gd < S.fp) = false := decide_eq_false (by omega)
  have d3 : decide (K.high < (x1 : Int) + (5 + gp + gl) + gd) = false := decide_eq_false (by omega)
  refine wp_region_grow (by kernel_rfl) (by kernel_rfl) ?_
  repeat (first | go_big_quiet_step (first
    | (go_at_call 48; refine quiet_grow (base_eq (by omega) (by omega) (by omega) (by omega) rfl))))
  refine wpQuiet_nil ?_
  rintro _ ⟨gx, rfl⟩
  have H9 := Lib.hid (H8.out.grow (growN_below w8 gx))
  have HO9 := Lib.hid (HO8.out.trans (Only.of_below (bs := K.bs) (growN_below w8 gx)))
  have HX9 := Lib.hid (HX8.out.grow (growN_below w8 gx))
  clear H8 HO8 HX8 k13 k8 s0 s1 r0 r1' r2' r3' r4' r5
  generalize growN w8 gx = w9 at *
  go_upto_region 12 with (fail)
  clear d1 d2 d3
  have k13 := H9.out.c13
  have s0 := H9.out.lt
  have s1 := HX9.out.lt
  obtain ⟨r0, r1', r2', r3', r4', r5⟩ := proc_cells HX9.out
  cases is
  rotate_left 1
  have d4 : (S.fp == (x1 : Int) + (5 + gp + gl) + gd) = false := beq_eq_false_iff_ne.2 (by have := z9 rfl; omega)
  all_goals
    refine wp_region_grow (by kernel_rfl) (by kernel_rfl) ?_
    repeat (first | go_big_quiet_step (first
      | (go_at_call 48; refine quiet_grow (base_eq (by omega) (by omega) (by omega) (by omega) rfl))))
    refine wpQuiet_nil ?_
    rintro _ ⟨gy, rfl⟩
    have HA := Lib.hid (H9.out.grow (growN_below w9 gy))
    have HOA := Lib.hid (HO9.out.trans (Only.of_below (bs := K.bs) (growN_below w9 gy)))
    clear H9 HO9 HX9 k13 s0 s1 r0 r1' r2' r3' r4' r5 e1 e2
    generalize growN w9 gy = wa at *
    have k14 := HA.out.c14
    have k13 := HA.out.c13
    have k10 := HA.out.c10
    have k11 := HA.out.c11
    have k15 := HA.out.c15
    have k17 := HA.out.c17
    have fz := HA.out.fz
    have s0 := HA.out.lt
    have HE := Lib.hid ((((((HA.out.set_sp HK.out S.fp).set_fp HK.out x1).set_mod HK.out x2).set_proc HK.out x4).set_next HK.out x3).set_depth HK.out (S.depth - 1))
    have HOE := Lib.hid ((((((HOA.out.setCell (a := ⟨K.b, 14, none⟩) HK.out.hb (.int .i64 S.fp)).setCell (a := ⟨K.b, 13, none⟩) HK.out.hb (.int .i64 x1)).setCell (a := ⟨K.b, 10, none⟩) HK.out.hb (.int .i64 x2)).setCell (a := ⟨K.b, 11, none⟩) HK.out.hb (.int .i64 x4)).setCell (a := ⟨K.b, 15, none⟩) HK.out.hb (.int .i64 x3)).setCell (a := ⟨K.b, 17, none⟩) HK.out.hb (.int .i64 (S.depth - 1)))
    go_wp2_with fail
    go_ret
    rw [HBM.out]
    exact ⟨rfl, HE.out, HOE.out⟩
end Go.Proofs.YtpfcojnkflcnoaaGreatDoor
/- A machine's function goes back with its word. Condition: what lies in memory can lie there. -/
namespace Go.Proofs.YtpfcojnkflcnoaaGreatDoor
open Go.RowKit
set_option maxRecDepth 100000
attribute [local go_sem ↓] Go.wp_at_zero Go.wp_at_succ

theorem retf_first (q t : Nat) (W : World) (hq : W.cell? ⟨q, 0, none⟩ = some (.int .u8 t)) : Calls Tryz.prog 141 #[.pointer (some ⟨q, 0, none⟩)] W (fun e w' => e = .returned (.int .u8 t) ∧ W = w') := by
  go_enter Tryz.func141, Tryz.ntmps141
  go_wp2_with fail
  go_ret
  exact ⟨rfl, rfl⟩
/-- How the second of three ends: no trap; the third one is there, and ends so. -/
def Retf2 (g : Nat) (cap2 : Array Value) (R : Ending → World → Prop) (e : Ending) (w' : World) : Prop := e = .returned (.int .u8 (0 : Nat)) ∧ w'.cell? ⟨g, 2, none⟩ = some (.func (.func 143) #[] cap2) ∧ g < w'.heap.size ∧
  Calls Tryz.prog 143 cap2 w' (fun e w'' => ∃ u : Nat, e = .returned (.int .u8 u) ∧ R (.returned (.int .u8 u)) w'')
theorem retf_traps (g q : Nat) (cap1 cap2 : Array Value) (W : World) (hg0 : W.cell? ⟨g, 0, none⟩ = some (.func (.func 141) #[] #[.pointer (some ⟨q, 0, none⟩)])) (hg1 : W.cell? ⟨g, 1, none⟩ = some (.func (.func 142) #[] cap1))
    (hq : W.cell? ⟨q, 0, none⟩ = some (.int .u8 (0 : Nat))) (R : Ending → World → Prop) (h1 : Calls Tryz.prog 142 cap1 W (Retf2 g cap2 R)) : Calls Tryz.prog 125 #[.slice (some ⟨g, 0, none⟩) 3 3] W R := by
  have hF := retf_first q 0 W hq
  have HF := Lib.hid hF
  have H1 := Lib.hid h1
  clear hF h1
  go_enter Tryz.func125, Tryz.ntmps125
  go_wp2_with fail
  refine wp_loop_rounds 4 ?_
  rw [rounds_succ]
  go_wp2_with fail
  refine (HF.out).mono ?_
  rintro e w' ⟨rfl, rfl⟩
  go_wp2_with fail
  rw [rounds_succ]
  go_wp2_with fail
  refine (H1.out).mono ?_
  rintro e w' ⟨rfl, hc2, hgl, hR⟩
  have HR := Lib.hid hR
  clear hR hg0 hg1 hq
  go_wp2_with fail
  rw [rounds_succ]
  go_wp2_with fail
  refine (HR.out).mono ?_
  rintro e w'' ⟨u, rfl, hR⟩
  have HR2 := Lib.hid hR
  clear hR
  by_cases hu : u = 0
  · subst hu
    go_wp2_with fail
    rw [rounds_succ]
    go_wp2_with fail
    exact HR2.out
  · have d := bne_iff_ne.2 (show (u : Int) ≠ 0 by omega)
    go_wp2_with fail
    exact HR2.out
theorem retf_second (K : MK) (k : KOk K) (S : St) (s : SOk K S) (hf : (hereP K S).fn = true) (hB : BackOk K S true) (hd0 : -1000000000 ≤ S.depth) (hd1 : S.depth ≤ 1000000000) (W : World) (h : At K S W) (x : Nat) (cx : W.cell? ⟨x, 0, none⟩ = some (.pointer (some ⟨K.b, 0, none⟩))) :
    Calls Tryz.prog 142 #[.pointer (some ⟨x, 0, none⟩)] W (OpEnd K W (backM S, 0)) := by
  have HC := Lib.hid (leave_back K k S s true hf hB hd0 hd1 W h)
  clear h k s hf hB
  go_enter Tryz.func142, Tryz.ntmps142
  go_wp2_with fail
  refine (HC.out).mono ?_
  rintro e w1 ⟨rfl, h1, ho1⟩
  go_wp2_with fail
  go_ret
  exact ⟨rfl, h1, ho1⟩
theorem retf_third (K : MK) (k : KOk K) (S : St) (s : SOk K S) (W : World) (h : At K S W) (x q b o c y : Nat) (hy : y < 65536) (cx : W.cell? ⟨x, 0, none⟩ = some (.pointer (some ⟨K.b, 0, none⟩))) (cq : W.cell? ⟨q, 0, none⟩ = some (.slice (some ⟨b, o, none⟩) 1 c)) (cb : W.cell? ⟨b, o, none⟩ = some (.int .u16 y)) :
    Calls Tryz.prog 143 #[.pointer (some ⟨x, 0, none⟩), .pointer (some ⟨q, 0, none⟩)] W (OpEnd K W (pushM K y S)) := by
  have H := Lib.hid (h.grow (drew_below W))
  have HO := Lib.hid (Only.of_below (bs := K.bs) (drew_below W))
  have dx := ((drew_below W).cell (p := ⟨x, 0, none⟩) (lt_of_cell cx)).trans cx
  have dq := ((drew_below W).cell (p := ⟨q, 0, none⟩) (lt_of_cell cq)).trans cq
  have db := ((drew_below W).cell (p := ⟨b, o, none⟩) (lt_of_cell cb)).trans cb
  clear h cx cq cb
  go_enter Tryz.func143, Tryz.ntmps143
  go_wp2_with fail
  refine wp_region_tail 4 (by kernel_rfl) (by kernel_rfl) ?_
  generalize W.drew = wd at *
  simp only [List.take_succ_cons, List.take_zero, List.drop_succ_cons, List.drop_zero]
  repeat still_step
  refine wpStill_nil ?_
  go_wp2_with fail
  refine (push_any K k S s y hy wd H.out).mono ?_
  rintro e w5 ⟨rfl, h5, ho5⟩
  go_wp2_with fail
  go_ret
  exact ⟨rfl, h5, HO.out.trans ho5⟩
set_option maxHeartbeats 2000000 in
theorem retf_back (K : MK) (k : KOk K) (S S1 : St) (y : Nat) (s : SOk K S) (hpop : popsM K 1 S = (S1, [y], 0)) (s1 : SOk K S1) (hf : (hereP K S1).fn = true) (hB : BackOk K S1 true) (s2 : SOk K (backM S1)) (hd0 : -1000000000 ≤ S1.depth) (hd1 : S1.depth ≤ 1000000000) (W : World) (h : At K S W) :
    Calls Tryz.prog 76 #[.pointer (some ⟨K.b, 0, none⟩)] W (OpEnd K W (pushM K y (backM S1))) := by
  have HX0 := Lib.hid (Bx.new W #[.pointer (some ⟨K.b, 0, none⟩)] 38)
  have HB0 := Lib.hid (alloc_below W (.cells #[.pointer (some ⟨K.b, 0, none⟩)] 38))
  have H0 := Lib.hid (h.grow HB0.out)
  have HN0 := Lib.hid (show W.heap.size ∉ K.bs from fun hm => by have := h.old _ hm; omega)
  have HPOP := Lib.hid hpop
  have HS := Lib.hid s
  have HBK := Lib.hid hB
  have HF := Lib.hid hf
  clear h hpop s hB hf
  go_enter Tryz.func76, Tryz.ntmps76
  go_wp2_with fail
  generalize W.alloc (.cells #[.pointer (some ⟨K.b, 0, none⟩)] 38) = w0 at *
  refine (pops_any K k S HS.out 1 (by omega) _ H0.out).mono ?_
  rintro e w1 ⟨A, c, rfl, hW, hA, ho⟩
  rw [HPOP.out] at hW hA ⊢
  simp only at hW hA
  have HX1 := Lib.hid (HX0.out.only ho HN0.out)
  have HO1 := Lib.hid ((Only.of_below (bs := K.bs) HB0.out).trans ho)
  have HA1 := Lib.hid hA
  obtain ⟨b, o, rfl, hbl, hc⟩ := hW.at_ (j := 0) (by simp)
  rw [Nat.zero_mul, Nat.add_zero] at hc
  have HC0 := Lib.hid (mask_cell hc.1)
  have HR0 := Lib.hid hc.2
  have hbn := mask_notin hc.1
  clear hA ho hW hc hbl HX0 H0 HB0 HPOP
  dsimp only
  have e1 : (w1.alloc (.cells #[.slice (some ⟨b, o, none⟩) 1 c] 71)).heap.size = w1.heap.size + 1 := by simp
  have e2 : ((w1.alloc (.cells #[.slice (some ⟨b, o, none⟩) 1 c] 71)).alloc (.cells #[.int .u8 (0 : Nat)] 5)).heap.size = w1.heap.size + 1 + 1 := by simp
  have q0 := Bx.grow (Bx.new w1 #[.slice (some ⟨b, o, none⟩) 1 c] 71) (alloc_below _ (.cells #[.int .u8 (0 : Nat)] 5))
  have q1 := Bx.new (w1.alloc (.cells #[.slice (some ⟨b, o, none⟩) 1 c] 71)) #[.int .u8 (0 : Nat)] 5
  rw [e1] at q1
  have HB2 := Lib.hid (((Below.refl _ _).alloc (Nat.le_refl _) _).alloc (by rw [e1]; omega) _ : Below w1.heap.size w1 ((w1.alloc (.cells #[.slice (some ⟨b, o, none⟩) 1 c] 71)).alloc (.cells #[.int .u8 (0 : Nat)] 5)))
  have Q0 := Lib.hid q0
  have Q1 := Lib.hid q1
  have HE2 := Lib.hid e2
  clear q0 q1 e1 e2
  go_wp2_with fail
  generalize hw2 : ((w1.alloc (.cells #[.slice (some ⟨b, o, none⟩) 1 c] 71)).alloc (.cells #[.int .u8 (0 : Nat)] 5)) = w2 at *
  clear hw2
  have HB3 := Lib.hid (alloc_below w2 (.cells #[.func (.func 141) #[] #[.pointer (some ⟨w1.heap.size + 1, 0, none⟩)], .func (.func 142) #[] #[.pointer (some ⟨W.heap.size, 0, none⟩)], .func (.func 143) #[] #[.pointer (some ⟨W.heap.size, 0, none⟩), .pointer (some ⟨w1.heap.size, 0, none⟩)]] 87))
  have q2 := Bx.new w2 #[.func (.func 141) #[] #[.pointer (some ⟨w1.heap.size + 1, 0, none⟩)], .func (.func 142) #[] #[.pointer (some ⟨W.heap.size, 0, none⟩)], .func (.func 143) #[] #[.pointer (some ⟨W.heap.size, 0, none⟩), .pointer (some ⟨w1.heap.size, 0, none⟩)]] 87
  rw [HE2.out] at q2
  generalize w2.alloc (.cells #[.func (.func 141) #[] #[.pointer (some ⟨w1.heap.size + 1, 0, none⟩)], .func (.func 142) #[] #[.pointer (some ⟨W.heap.size, 0, none⟩)], .func (.func 143) #[] #[.pointer (some ⟨W.heap.size, 0, none⟩), .pointer (some ⟨w1.heap.size, 0, none⟩)]] 87) = w3 at *
  have HB := Lib.hid (HB2.out.trans (HB3.out.mono HB2.out.size))
  have h3 := Lib.hid (HA1.out.grow HB.out)
  have ho3 := Lib.hid (HO1.out.trans (Only.of_below (bs := K.bs) HB.out))
  have HX3 := Lib.hid (HX1.out.grow HB.out)
  have Q03 := Lib.hid (Q0.out.grow HB3.out)
  have Q23 := Lib.hid q2
  have HC3 := Lib.hid ((HB.out.cell (lt_of_cell HC0.out)).trans HC0.out)
  have hn1 : w1.heap.size ∉ K.bs := fun hm => by have := HA1.out.old _ hm; omega
  have hn3 : w1.heap.size + 1 + 1 ∉ K.bs := fun hm => by have := HA1.out.old _ hm; omega
  refine retf_traps (w1.heap.size + 1 + 1) (w1.heap.size + 1) _ #[.pointer (some ⟨W.heap.size, 0, none⟩), .pointer (some ⟨w1.heap.size, 0, none⟩)] w3 ((Q23.out.cell 0).trans rfl) ((Q23.out.cell 1).trans rfl) (((Q1.out.grow HB3.out).cell 0).trans rfl) _ ?_
  refine (retf_second K k S1 s1 HF.out HBK.out hd0 hd1 w3 h3.out W.heap.size ((HX3.out.cell 0).trans rfl)).mono ?_
  rintro e w4 ⟨rfl, h4, ho4⟩
  have HX4 := Lib.hid (HX3.out.only ho4 HN0.out)
  have Q04 := Lib.hid (Q03.out.only ho4 hn1)
  have Q24 := Lib.hid (Q23.out.only ho4 hn3)
  have HC4 := Lib.hid (show w4.cell? ⟨b, o, none⟩ = some (.int .u16 (y : Nat)) by
    have e := ho4.block (lt_of_cell HC3.out) hbn
    have hc := HC3.out
    unfold World.cell? at hc ⊢
    rw [e]
    exact hc)
  refine ⟨rfl, (Q24.out.cell 2).trans rfl, Q24.out.lt, ?_⟩
  refine (retf_third K k (backM S1) s2 w4 h4 W.heap.size w1.heap.size b o c y HR0.out ((HX4.out.cell 0).trans rfl) ((Q04.out.cell 0).trans rfl) HC4.out).mono ?_
  rintro e w5 ⟨rfl, h5, ho5⟩
  refine ⟨_, rfl, ?_⟩
  go_wp2_with fail
  go_ret
  exact ⟨rfl, h5, ho3.out.trans (ho4.trans ho5)⟩
end Go.Proofs.YtpfcojnkflcnoaaGreatDoor
/- A machine loads a word of a frame, as a closure. Condition: what lies in memory can lie there. -/
namespace Go.Proofs.YtpfcojnkflcnoaaGreatDoor
open Go.RowKit
set_option maxRecDepth 100000
attribute [local go_sem ↓] Go.wp_at_zero Go.wp_at_succ

def localM (K : MK) (doF : Int → St → St × Nat) (S : St) : St × Nat :=
  if (outM K (S.args.getD 0 0).toNat S).2 ≠ 0 then (S, (outM K (S.args.getD 0 0).toNat S).2)
  else if K.high ≤ (outM K (S.args.getD 0 0).toNat S).1 + 5 + S.args.getD 1 0 then (S, 15)
  else doF ((outM K (S.args.getD 0 0).toNat S).1 + 5 + S.args.getD 1 0) S
theorem outM_le {K : MK} (k : KOk K) {S : St} (s : SOk K S) (hw : ∀ i, S.ws i < 65536) (l : Nat) : 0 ≤ (outM K l S).1 ∧ (outM K l S).1 ≤ 65536 := by
  unfold outM
  split
  · exact ⟨by decide, by decide⟩
  · have h1 := k.low1; have h2 := s.fp1; have h3 := s.top; have h4 := k.high; have h5 := k.n_le
    have h6 := (hereOk k s.toROk)
    unfold baseN at h3
    exact outL_le K S.ws hw l S.fp (by omega) (by omega)
theorem out_eq (K : MK) (k : KOk K) (S : St) (s : SOk K S) (l : Nat) (hl : l ≤ 1000000) (W : World) (h : At K S W) : Calls Tryz.prog 124 #[.pointer (some ⟨K.b, 0, none⟩), .int .i64 l] W fun e w' => e = .returned (.tuple #[.int .i64 (outM K l S).1, .int .u8 ((outM K l S).2 : Nat)]) ∧ Below W.heap.size W w' := out_frame K k S s l hl W h
set_option maxHeartbeats 2000000 in
theorem localLoads_any (K : MK) (k : KOk K) (S : St) (s : SOk K S) (ha : 1 < S.args.length) (hl0 : 0 ≤ S.args.getD 0 0) (hl1 : S.args.getD 0 0 ≤ 1000000) (hq0 : 0 ≤ S.args.getD 1 0) (hq1 : S.args.getD 1 0 ≤ 1000000) (W : World) (h : At K S W) (x y : Nat) (_hx : x ∉ K.bs) (_hy : y ∉ K.bs)
    (cx : W.cell? ⟨x, 0, none⟩ = some (.pointer (some ⟨K.b, 0, none⟩))) (cy : W.cell? ⟨y, 0, none⟩ = some (.func (.func 55) #[.pointer (some ⟨K.b, 0, none⟩)] #[])) :
    Calls Tryz.prog 123 #[.pointer (some ⟨x, 0, none⟩), .pointer (some ⟨y, 0, none⟩)] W (OpEnd K W (localM K (loadsM K) S)) := by
  have HK := Lib.hid k
  have HS := Lib.hid s
  have HL := Lib.hid (outM_le k s h.mem.small (S.args.getD 0 0).toNat)
  have HR0 := Lib.hid (show localM K (loadsM K) S = if (outM K (S.args.getD 0 0).toNat S).2 ≠ 0 then (S, (outM K (S.args.getD 0 0).toNat S).2)
    else if K.high ≤ (outM K (S.args.getD 0 0).toNat S).1 + 5 + S.args.getD 1 0 then (S, 15)
    else loadsM K ((outM K (S.args.getD 0 0).toNat S).1 + 5 + S.args.getD 1 0) S from rfl)
  have H := Lib.hid h
  have HG := Lib.hid (show ∀ x, At K S (growN W x) from fun x => h.grow (growN_below W x))
  obtain ⟨ab, ao, ac, c16, hab, a0c⟩ := h.arg (j := 0) (by omega)
  simp only [Nat.add_zero] at a0c
  have HAL := Lib.hid ha
  have DX := Lib.hid cx
  have DY := Lib.hid cy
  have hl2 : 0 < S.args.length := by omega
  have s0 := h.lt
  have s1 := lt_of_cell cx
  simp only at s1
  generalize ha0 : S.args.getD 0 0 = l at *
  clear ha0
  obtain ⟨ln, rfl⟩ := Int.eq_ofNat_of_zero_le hl0
  rw [Int.toNat_natCast] at HR0 HL
  clear h k s ha cy
  go_enter Tryz.func123, Tryz.ntmps123
  go_wp2_with fail
  refine wp_region_grow (by kernel_rfl) (by kernel_rfl) ?_
  repeat (first | go_big_quiet_step (first
    | (go_at_call 124; refine quiet_grow (out_eq K HK.out S HS.out ln (by omega) _ (HG.out _)))))
  refine wpQuiet_nil ?_
  rintro _ ⟨gx, rfl⟩
  have H2 := Lib.hid (HG.out gx)
  have HO2 := Lib.hid (Only.of_below (bs := K.bs) (growN_below W gx))
  have dx := ((growN_below W gx).cell (p := ⟨x, 0, none⟩) (lt_of_cell DX.out)).trans DX.out
  have dy := ((growN_below W gx).cell (p := ⟨y, 0, none⟩) (lt_of_cell DY.out)).trans DY.out
  clear c16 hab a0c s0 s1 cx H HG DX DY hl2
  generalize growN W gx = w2 at *
  obtain ⟨ab', ao', ac', c16, hab, a1c⟩ := H2.out.arg (j := 1) HAL.out
  generalize ha1 : S.args.getD 1 0 = q at *
  generalize outM K ln S = r at *
  obtain ⟨fp, t⟩ := r
  simp only at HR0 HL
  obtain ⟨f0, f1⟩ := HL.out
  have hal1 : 1 < S.args.length := HAL.out
  have k8 := H2.out.c8
  have s0 := H2.out.lt
  clear ha1
  by_cases ht : t = 0
  · subst ht
    have HR1 := Lib.hid (show localM K (loadsM K) S = if K.high ≤ fp + 5 + q then (S, 15) else loadsM K (fp + 5 + q) S by rw [HR0.out, if_neg (by simp)])
    clear HR0
    by_cases hh : K.high ≤ fp + 5 + q
    · have HR := Lib.hid (show localM K (loadsM K) S = (S, 15) by rw [HR1.out, if_pos hh])
      have d0 := decide_eq_true hh
      go_wp2_with fail
      go_ret
      rw [HR.out]
      exact ⟨rfl, H2.out, HO2.out⟩
    · have HR := Lib.hid (show localM K (loadsM K) S = loadsM K (fp + 5 + q) S by rw [HR1.out, if_neg hh])
      have hh' : fp + 5 + q < K.high := by omega
      have d0 : decide (K.high ≤ fp + 5 + q) = false := decide_eq_false hh
      clear hh HR1
      go_wp2_with fail
      refine (loads_any K HK.out S HS.out (fp + 5 + q) _ H2.out).mono ?_
      rintro e w3 ⟨rfl, h3, ho3⟩
      go_wp2_with fail
      go_ret
      rw [HR.out]
      exact ⟨rfl, h3, HO2.out.trans ho3⟩
  · have d := bne_iff_ne.2 (show (t : Int) ≠ 0 by omega)
    have HR := Lib.hid (show localM K (loadsM K) S = (S, t) by rw [HR0.out, if_pos (by simpa using ht)])
    clear HR0
    go_wp2_with fail
    go_ret
    rw [HR.out]
    exact ⟨rfl, H2.out, HO2.out⟩
end Go.Proofs.YtpfcojnkflcnoaaGreatDoor
