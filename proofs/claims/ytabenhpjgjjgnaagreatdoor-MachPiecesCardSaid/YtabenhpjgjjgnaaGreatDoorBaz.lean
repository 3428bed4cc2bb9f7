/- A machine's case. A machine's call of another module's procedure. A machine's call of a procedure that a word names. A machine reads a byte. Condition: what lies in memory can lie there; what each theorem says. -/
import Derived.Test.YtabenhpjgjjgnaaGreatDoorBay
import Derived.Test.YtabenhpjgjjgnaaGreatDoorBah
import Derived.Deep.DeepCutAuto
/- A machine's case. -/
namespace Go.Proofs.YtabenhpjgjjgnaaGreatDoor
open Go.RowKit
set_option maxRecDepth 100000
attribute [local go_sem ↓] Go.wp_at_zero Go.wp_at_succ
theorem drop3 (l : List Int) (i : Nat) (h : i + 3 ≤ l.length) : l.drop i = l.getD i 0 :: l.getD (i + 1) 0 :: l.getD (i + 2) 0 :: l.drop (i + 3) := by
 have e : ∀ j, j < l.length → l.drop j = l.getD j 0 :: l.drop (j + 1) := fun j hj => by
  rw [List.drop_eq_getElem_cons hj, List.getD_eq_getElem?_getD, List.getElem?_eq_getElem hj, Option.getD_some]
 rw [e i (by omega), e (i + 1) (by omega), e (i + 2) (by omega)]
theorem case_on (z : Bool) (x : Nat) (d : Int) (l : List Int) (i : Nat) (h : i + 3 ≤ l.length) : caseFar z x d (l.drop i) = if withinM z x (w16 (l.getD i 0)) (w16 (l.getD (i + 1) 0)) then l.getD (i + 2) 0 else caseFar z x d (l.drop (i + 3)) := by
 rw [drop3 l i h]; rfl
theorem case_end (z : Bool) (x : Nat) (d : Int) (l : List Int) (i : Nat) (h : l.length < i + 3) : caseFar z x d (l.drop i) = d := by
 have hl : (l.drop i).length < 3 := by rw [List.length_drop]; omega
 generalize l.drop i = r at hl
 match r, hl with
 | [], _ => rfl
 | [_], _ => rfl
 | [_, _], _ => rfl
set_option maxHeartbeats 4000000 in
theorem cases_any (K : MK) (k : KOk K) (S : St) (s : SOk K S) (ha : 2 ≤ S.args.length) (hsh : S.args.length ≤ 1000) (hw : ∀ i, -32768 ≤ S.args.getD i 0 ∧ S.args.getD i 0 ≤ 65535) (hn0 : 0 ≤ S.next) (hn1 : S.next ≤ 1000000) (W : World) (h : At K S W) :
 Calls Tryz.prog 83 #[.pointer (some ⟨K.b, 0, none⟩)] W (OpEnd K W (casesM K S)) := by
 have HK := Lib.hid k
 have HS := Lib.hid (popsM_ok s 1)
 have HP := Lib.hid (show casesM K S = casesR K (popsM K 1 S) from rfl)
 have hlen := popsM_len K 1 S
 obtain ⟨harg, hnx⟩ := popsM_keeps K 1 S
 have HC := Lib.hid (pops_any K k S s 1 (by omega) W h)
 clear h k s
 go_enter Tryz.func83, Tryz.ntmps83
 go_wp2_with fail
 refine (HC.out).mono ?_
 rintro e w1 ⟨A, c, rfl, hW, hA, ho⟩
 generalize popsM K 1 S = r at *
 obtain ⟨S1, l, t⟩ := r
 simp only at hlen hW hA harg hnx HS
 rw [← harg] at ha hsh hw
 rw [← hnx] at hn0 hn1
 have HA := Lib.hid hA
 have HO := Lib.hid ho
 obtain ⟨b, o, rfl, hc⟩ := word_cells hW (by omega)
 clear hA ho hW HC harg hnx
 rw [hlen]
 dsimp only
 by_cases ht : t = 0
 ·subst ht
  obtain ⟨hc0, hr0⟩ := hc 0 (by omega)
  simp only [Nat.add_zero] at hc0
  have HX := Lib.hid (show casesM K S = goesM K (caseFar (S1.args.getD 0 0 != 0) (l.getD 0 0) (S1.args.getD 1 0) (S1.args.drop 2)) S1 by rw [HP.out, casesR, if_neg (by simp)])
  generalize l.getD 0 0 = x0 at *
  have HC0 := Lib.hid hc0
  have HR0 := Lib.hid hr0
  have HHW := Lib.hid hw
  have HSH := Lib.hid hsh
  have HAL := Lib.hid ha
  have HN := Lib.hid (And.intro hn0 hn1)
  obtain ⟨ab, ao, ac, c16, hab, a0c⟩ := HA.out.arg (j := 0) (by omega)
  have HCAP := Lib.hid (HA.out.argsCap c16)
  have haI : (2 : Int) ≤ (S1.args.length : Int) := by omega
  have hlt := HA.out.lt
  have HA16 := Lib.hid c16
  clear hc hlen HP hc0 hr0 hw hn0 hn1 a0c
  go_upto_region 4 with (fail)
  go_cut [5] (fun u w' => ∃ z cc : Nat, u = .slice (some ⟨ab, z, none⟩) (S1.args.length - 2) cc ∧ (2 < S1.args.length → z = ao + 2) ∧ S1.args.length - 2 ≤ cc ∧ w1 = w')
  case first =>
   have hcap := HCAP.out
   clear HCAP
   go_wp2_with fail
   all_goals
    go_meet
    refine ⟨_, _, rfl, ?_, ?_, rfl⟩
    ·omega
    ·omega
  case rest =>
   obtain ⟨z, cc, rfl, hz, hcc, rfl⟩ := hcut
   clear c16 hlt hab
   go_wp2_with fail
   go_loopg [5] S1.args.length (fun g x wr => ∃ i z cc : Nat, x = .slice (some ⟨ab, z, none⟩) (S1.args.length - i) cc ∧ 2 ≤ i ∧ i ≤ S1.args.length ∧ S1.args.length - i ≤ cc ∧ (i < S1.args.length → z = ao + i) ∧ S1.args.length - i ≤ g ∧ Below w1.heap.size w1 wr ∧
    casesM K S = goesM K (caseFar (S1.args.getD 0 0 != 0) x0 (S1.args.getD 1 0) (S1.args.drop i)) S1)
   case atStart => exact ⟨2, z, cc, rfl, Nat.le_refl _, HAL.out, hcc, hz, by omega, Below.refl _ _, HX.out⟩
   case round =>
    obtain ⟨i, z, cc, rfl, h2, hi, hcc, hz, hg, hb, he⟩ := hrel
    have H1 := Lib.hid (HA.out.grow hb)
    have HO1 := Lib.hid (HO.out.trans (Only.of_below (bs := K.bs) hb))
    have HB := Lib.hid hb
    have HE := Lib.hid he
    have C0 := Lib.hid ((hb.cell (p := ⟨b, o, none⟩) (lt_of_cell HC0.out)).trans HC0.out)
    have HR0' := HR0.out
    clear hb he
    obtain ⟨n, hn⟩ : ∃ n, n = S1.args.length - i := ⟨_, rfl⟩
    rw [← hn] at hcc hg ⊢
    have HNn := Lib.hid (show i + n = S1.args.length by omega)
    have hnl : n ≤ S1.args.length := by omega
    clear hn
    by_cases h3 : i + 3 ≤ S1.args.length
    ·have d0 : decide ((3 : Int) ≤ (n : Int)) = true := decide_eq_true (by have := HNn.out; omega)
     obtain rfl := hz (by omega)
     have HE2 := Lib.hid (show casesM K S = goesM K (if withinM (S1.args.getD 0 0 != 0) x0 (w16 (S1.args.getD i 0)) (w16 (S1.args.getD (i + 1) 0)) then S1.args.getD (i + 2) 0 else caseFar (S1.args.getD 0 0 != 0) x0 (S1.args.getD 1 0) (S1.args.drop (i + 3))) S1 by rw [HE.out, case_on _ _ _ _ _ h3])
     clear HE hz
     go_upto_region 7 with (fail)
     refine wp_region_tail 18 (by kernel_rfl) (by kernel_rfl) ?_
     have H2 := Lib.hid (H1.out.grow (drew_below wr))
     have HO2 := Lib.hid (HO1.out.trans (Only.of_below (bs := K.bs) (drew_below wr)))
     have HB2 := Lib.hid (HB.out.trans ((drew_below wr).mono HB.out.size))
     have c0 := ((drew_below wr).cell (p := ⟨b, o, none⟩) (lt_of_cell C0.out)).trans C0.out
     clear H1 HO1 HB C0 d0
     generalize wr.drew = w2 at *
     have hmlt := H2.out.lt
     have c16 := (HB2.out.cell (p := ⟨K.b, 16, none⟩) (lt_of_cell HA16.out)).trans HA16.out
     obtain ⟨ab0, ao0, A0, c160, hab0, a0c⟩ := H2.out.arg (j := 0) (by omega)
     obtain ⟨ab1, ao1, A1, c161, hab1, a1c⟩ := H2.out.arg (j := i) (by omega)
     obtain ⟨ab2, ao2, A2, c162, hab2, a2c⟩ := H2.out.arg (j := i + 1) (by omega)
     obtain ⟨ab3, ao3, A3, c163, hab3, a3c⟩ := H2.out.arg (j := i + 2) (by omega)
     rw [c16] at c160 c161 c162 c163
     cases c160
     cases c161
     cases c162
     cases c163
     rw [← Nat.add_assoc] at a2c a3c
     simp only [Nat.add_zero] at a0c
     have hal0 : 0 < S1.args.length := by omega
     have hn0 : 0 < n := by have := HNn.out; omega
     have hn1 : (1 : Int) < (n : Int) := by have := HNn.out; omega
     have hn2 : (2 : Int) < (n : Int) := by have := HNn.out; omega
     obtain ⟨f0, f1⟩ := HHW.out (i + 2)
     have HX3 := Lib.hid (fun d => case_on (S1.args.getD 0 0 != 0) x0 d S1.args i h3)
     have HC1 := Lib.hid (w16_cast (S1.args.getD i 0))
     have HC2 := Lib.hid (w16_cast (S1.args.getD (i + 1) 0))
     have HW := Lib.hid (within7_any (S1.args.getD 0 0 != 0) x0 (w16 (S1.args.getD i 0)) (w16 (S1.args.getD (i + 1) 0)) HR0' (w16_lt _) (w16_lt _) w2)
     have HGO := Lib.hid (fun W' (h' : At K S1 W') => goes_any K HK.out S1 HS.out.toROk (S1.args.getD (i + 2) 0) HN.out.1 HN.out.2 (by omega) (by omega) W' h')
     have A3 := Lib.hid a3c
     clear a3c hab0 hab1 hab2 HX3
     generalize S1.args.getD (i + 2) 0 = v2 at *
     generalize S1.args.getD (i + 1) 0 = r at *
     generalize hq : S1.args.getD i 0 = q at *
     generalize hpp : S1.args.getD 0 0 = pp at *
     clear hq hpp
     simp only [List.take_succ_cons, List.take_zero, List.drop_succ_cons, List.drop_zero]
     repeat still_step
     refine wpStill_nil ?_
     go_wp2_with fail
     rw [HC1.out, HC2.out]
     refine (HW.out).mono ?_
     rintro e w5 ⟨rfl, rfl⟩
     cases hwi : withinM (pp != 0) x0 (w16 q) (w16 r)
     ·have HE3 := Lib.hid (show casesM K S = goesM K (caseFar (pp != 0) x0 (S1.args.getD 1 0) (S1.args.drop (i + 3))) S1 by rw [HE2.out, hwi]; rfl)
      have hn3 : (3 : Int) ≤ (n : Int) := by have := HNn.out; omega
      clear HE2 hwi a0c a1c a2c c0 c16 hmlt A3
      go_wp2_with fail
      all_goals
       go_roundg (n - 3)
       case measure => omega
       case rel =>
        have hnn := HNn.out
        exact ⟨i + 3, _, _, by rw [show S1.args.length - (i + 3) = n - 3 by omega], by omega, by omega, by omega, by omega, by omega, HB2.out, HE3.out⟩
     ·have HR := Lib.hid (show casesM K S = goesM K v2 S1 by rw [HE2.out, hwi]; rfl)
      have a3 := A3.out
      clear HE2 hwi a0c a1c a2c c0 c16
      go_wp2_with fail
      refine (HGO.out _ H2.out).mono ?_
      rintro e w6 ⟨rfl, h6, ho6⟩
      go_wp2_with fail
      go_ret
      rw [HR.out]
      exact ⟨rfl, h6, HO2.out.trans ho6⟩
    ·have d0 : decide ((3 : Int) ≤ (n : Int)) = false := decide_eq_false (by have := HNn.out; omega)
     have HR := Lib.hid (show casesM K S = goesM K (S1.args.getD 1 0) S1 by rw [HE.out, case_end _ _ _ _ _ (by omega)])
     have hn3 : (n : Int) < 3 := by have := HNn.out; omega
     obtain ⟨ab1, ao1, A1, c161, hab1, a1c⟩ := H1.out.arg (j := 1) (by omega)
     have hlt := H1.out.lt
     have hal1 : (1 : Int) < (S1.args.length : Int) := by omega
     obtain ⟨f0, f1⟩ := HHW.out 1
     have HGO := Lib.hid (fun W' (h' : At K S1 W') => goes_any K HK.out S1 HS.out.toROk (S1.args.getD 1 0) HN.out.1 HN.out.2 (by omega) (by omega) W' h')
     clear HE hz
     generalize S1.args.getD 1 0 = v1 at *
     go_wp2_with fail
     refine (HGO.out _ H1.out).mono ?_
     rintro e w6 ⟨rfl, h6, ho6⟩
     go_wp2_with fail
     go_ret
     rw [HR.out]
     exact ⟨rfl, h6, HO1.out.trans ho6⟩
 ·have d := bne_iff_ne.2 (show (t : Int) ≠ 0 by omega)
  have HR := Lib.hid (show casesM K S = (S1, t) by rw [HP.out, casesR, if_pos (by simpa using ht)])
  go_wp2_with fail
  go_ret
  rw [HR.out]
  exact ⟨rfl, HA.out, HO.out⟩
end Go.Proofs.YtabenhpjgjjgnaaGreatDoor
/- A machine's call of another module's procedure. -/
namespace Go.Proofs.YtabenhpjgjjgnaaGreatDoor
open Go.RowKit
set_option maxRecDepth 100000
attribute [local go_sem ↓] Go.wp_at_zero Go.wp_at_succ
theorem level_any {K : MK} {S : St} {W : World} (h : At K S W) {m p : Int} (hm0 : 0 ≤ m) (hm1 : m < K.mods.length) (hp0 : 0 ≤ p) (hp1 : p < (K.mods.getD m.toNat default).procs.length) : ∃ mb mo pb po pc, W.cell? ⟨K.b, 1, none⟩ = some (.slice (some ⟨mb, mo, none⟩) K.mods.length K.pc) ∧ mb < W.heap.size ∧ W.cell? ⟨mb, mo + m.toNat * 5 + 1, none⟩ = some (.slice (some ⟨pb, po, none⟩) (K.mods.getD m.toNat default).procs.length pc) ∧ pb < W.heap.size ∧
 ProcAt W pb (po + p.toNat * 6) (procOf K m p) := by
 obtain ⟨mb, mo, hmA, hmb, mt, hMI, _, kc, _⟩ := (h.mods.reads (mask_reads _ _)).at_ (j := m.toNat) (by omega)
 obtain ⟨pb, po, hpA, hpb, hP⟩ := hMI.procs.at_ (j := p.toNat) (by omega)
 have c1 := h.c1
 rw [hmA] at c1
 rw [hpA] at kc
 exact ⟨mb, mo, pb, po, _, c1, hmb, kc, hpb, hP⟩
set_option maxHeartbeats 4000000 in
theorem callx_any (K : MK) (k : KOk K) (S : St) (s : SOk K S) (ha : 1 < S.args.length) (hq0 : 0 ≤ S.args.getD 0 0) (hq1 : S.args.getD 0 0 ≤ 1000000) (hp0 : 0 ≤ S.args.getD 1 0) (_hp1 : S.args.getD 1 0 ≤ 1000000) (hd0 : -1000000000 ≤ S.depth) (hd1 : S.depth ≤ 1000000000) (W : World) (h : At K S W) :
 Calls Tryz.prog 86 #[.pointer (some ⟨K.b, 0, none⟩)] W (OpEnd K W (callxM K S)) := by
 have HP := Lib.hid (show callxM K S = callxR K (moduleM K S) S from rfl)
 have HI := Lib.hid (module_in K k S s.toROk hq0)
 have HC := Lib.hid (module7_any K k S s (by omega) hq0 hq1 W h)
 have H := Lib.hid h
 have HK := Lib.hid k
 have HS := Lib.hid s
 have HAL := Lib.hid ha
 have HML := Lib.hid k.mods_le
 clear h ha k s
 generalize moduleM K S = r at *
 obtain ⟨m, t⟩ := r
 have HI := Lib.hid (show t = 0 → 0 ≤ m ∧ m < K.mods.length from HI.out)
 go_enter Tryz.func86, Tryz.ntmps86
 go_wp2_with fail
 refine (HC.out).mono ?_
 rintro e w1 ⟨rfl, hb1⟩
 have H1 := Lib.hid (H.out.grow hb1)
 have HO1 := Lib.hid (Only.of_below (bs := K.bs) hb1)
 clear hb1 H HC
 dsimp only
 by_cases ht : t = 0
 ·subst ht
  obtain ⟨g0, g1⟩ := HI.out rfl
  have HX := Lib.hid (show callxM K S = if (K.mods.getD m.toNat default).procs.length ≤ S.args.getD 1 0 then (S, 13)
   else if (procOf K m (S.args.getD 1 0)).level ≠ 1 then (S, 13) else enterM K m (S.args.getD 1 0) 0 S by rw [HP.out, callxR, if_neg (by simp)])
  have HG := Lib.hid (show ∀ x, At K S (growN w1 x) from fun x => H1.out.grow (growN_below w1 x))
  obtain ⟨ab, ao, ac, c16, hab, a1c⟩ := H1.out.arg (j := 1) HAL.out
  have hal : (1 : Int) < (S.args.length : Int) := by have := HAL.out; omega
  have hlt := H1.out.lt
  clear HP HI
  generalize ha1 : S.args.getD 1 0 = p at *
  by_cases hp : ((K.mods.getD m.toNat default).procs.length : Int) ≤ p
  ·have HR := Lib.hid (show callxM K S = (S, 13) by rw [HX.out, if_pos hp])
   have HN := Lib.hid (fun W' (h' : At K S W') => procs_no K S m p g0 g1 (by omega) W' h')
   clear HX hp
   go_wp2_with fail
   refine wp_region_grow (by kernel_rfl) (by kernel_rfl) ?_
   repeat (first | go_big_quiet_step (fail))
   go_big_quiet_step ((go_at_call 149; refine quiet_grow (HN.out _ (HG.out _))))
   repeat (first | go_big_quiet_step (fail))
   refine wpQuiet_nil ?_
   rintro _ ⟨gy, rfl⟩
   go_wp2_with fail
   go_ret
   rw [HR.out]
   exact ⟨rfl, HG.out gy, HO1.out.trans (Only.of_below (bs := K.bs) (growN_below w1 gy))⟩
  have hpn : p < ((K.mods.getD m.toNat default).procs.length : Int) := by omega
  have HY := Lib.hid (fun W' (h' : At K S W') => procs_yes K S m p g0 g1 hpn W' h')
  have HEN := Lib.hid (fun W' (h' : At K S W') => enter_any K HK.out S HS.out m p 0 g0 g1 hp0 hpn hd0 hd1 W' h')
  obtain ⟨mb, mo, pb, po, pc, c1, hmb, kc, hpb, ⟨_, _, _, _, r4, _⟩⟩ := level_any H1.out g0 g1 hp0 hpn
  have HX2 := Lib.hid (show callxM K S = if (procOf K m p).level ≠ 1 then (S, 13) else enterM K m p 0 S by rw [HX.out, if_neg hp])
  clear HX hp
  generalize (K.mods.getD m.toNat default).procs.length = npl at *
  generalize (procOf K m p).level = plv at *
  go_wp2_with fail
  refine wp_region_grow (by kernel_rfl) (by kernel_rfl) ?_
  repeat (first | go_big_quiet_step (fail))
  go_big_quiet_step ((go_at_call 149; refine quiet_grow (HY.out _ (HG.out _))))
  repeat (first | go_big_quiet_step (fail))
  refine wpQuiet_nil ?_
  rintro _ ⟨gy, rfl⟩
  have H2 := Lib.hid (HG.out gy)
  have HO2 := Lib.hid (HO1.out.trans (Only.of_below (bs := K.bs) (growN_below w1 gy)))
  clear H1 HO1 HG c1 hmb kc hpb r4 c16 hab a1c hlt
  generalize growN w1 gy = w2 at *
  by_cases hlv : plv = 1
  ·have HR := Lib.hid (show callxM K S = enterM K m p 0 S by rw [HX2.out, if_neg (by simpa using hlv)])
   have d0 : (plv != 1) = false := by rw [hlv]; rfl
   obtain ⟨ab, ao, ac, c16, hab, a1c⟩ := H2.out.arg (j := 1) HAL.out
   rw [ha1] at a1c
   have hlt := H2.out.lt
   clear HX2
   go_wp2_with fail
   refine (HEN.out _ H2.out).mono ?_
   rintro e w5 ⟨rfl, h5, ho5⟩
   go_wp2_with fail
   go_ret
   rw [HR.out]
   exact ⟨rfl, h5, HO2.out.trans ho5⟩
  ·have HR := Lib.hid (show callxM K S = (S, 13) by rw [HX2.out, if_pos hlv])
   have d0 := bne_iff_ne.2 hlv
   clear HX2
   go_wp2_with fail
   go_ret
   rw [HR.out]
   exact ⟨rfl, H2.out, HO2.out⟩
 ·have d := bne_iff_ne.2 (show (t : Int) ≠ 0 by omega)
  have HR := Lib.hid (show callxM K S = (S, t) by rw [HP.out, callxR, if_pos (by simpa using ht)])
  go_wp2_with fail
  go_ret
  rw [HR.out]
  exact ⟨rfl, H1.out, HO1.out⟩
end Go.Proofs.YtabenhpjgjjgnaaGreatDoor
/- A machine's call of a procedure that a word names. -/
namespace Go.Proofs.YtabenhpjgjjgnaaGreatDoor
open Go.RowKit
set_option maxRecDepth 100000
attribute [local go_sem ↓] Go.wp_at_zero Go.wp_at_succ
theorem first_cell {K : MK} {S : St} {W : World} (h : At K S W) {j : Nat} (hj : j < K.first.length) : ∃ fb fo, W.cell? ⟨K.b, 6, none⟩ = some (.slice (some ⟨fb, fo, none⟩) K.first.length K.fc) ∧ fb < W.heap.size ∧ W.cell? ⟨fb, fo + j, none⟩ = some (.int .i64 (K.first.getD j 0)) := by
 obtain ⟨fb, fo, hfe, hfb, hfc⟩ := (h.first.reads (mask_reads _ _)).at_ hj
 have c6 := h.c6
 rw [hfe] at c6
 simp only [Nat.mul_one] at hfc
 exact ⟨fb, fo, c6, hfb, hfc⟩
set_option maxHeartbeats 4000000 in
theorem callf_any (K : MK) (k : KOk K) (hF : K.first.length = K.mods.length) (hFr : ∀ j, 0 ≤ K.first.getD j 0 ∧ K.first.getD j 0 ≤ 1000000) (S : St) (s : SOk K S) (ha : 0 < S.args.length) (hd0 : -1000000000 ≤ S.depth) (hd1 : S.depth ≤ 1000000000) (W : World) (h : At K S W) :
 Calls Tryz.prog 87 #[.pointer (some ⟨K.b, 0, none⟩)] W (OpEnd K W (callfM K S)) := by
 have HK := Lib.hid k
 have HS := Lib.hid (popsM_ok s 1)
 have HKP := Lib.hid (show (popsM K 1 S).1.depth = S.depth by unfold popsM; split <;> rfl)
 have HP := Lib.hid (show callfM K S = callfR K (popsM K 1 S) from rfl)
 have hlen := popsM_len K 1 S
 have harg := popsM_args K 1 S
 have HC := Lib.hid (pops_any K k S s 1 (by omega) W h)
 have hml := k.mods_le
 clear h k s
 go_enter Tryz.func87, Tryz.ntmps87
 go_wp2_with fail
 refine (HC.out).mono ?_
 rintro e w1 ⟨A, c, rfl, hW, hA, ho⟩
 generalize popsM K 1 S = r at *
 obtain ⟨S1, l, t⟩ := r
 simp only at hlen hW hA harg HS HKP
 rw [← harg] at ha
 rw [← HKP.out] at hd0 hd1
 have HA := Lib.hid hA
 have HO := Lib.hid ho
 obtain ⟨b, o, rfl, hc⟩ := word_cells hW (by omega)
 clear hA ho hW HC harg HKP
 rw [hlen]
 dsimp only
 by_cases ht : t = 0
 ·subst ht
  obtain ⟨hc0, hr0⟩ := hc 0 (by omega)
  simp only [Nat.add_zero] at hc0
  have HX := Lib.hid (show callfM K S = if l.getD 0 0 = 0 then (S1, 5) else callfL K (l.getD 0 0) S1 K.mods.length 0 by rw [HP.out, callfR, if_neg (by simp)])
  generalize l.getD 0 0 = x0 at *
  have hlt : b < w1.heap.size := lt_of_cell hc0
  have HC0 := Lib.hid hc0
  have HAL := Lib.hid ha
  clear hc hlen HP ha
  by_cases hx : x0 = 0
  ·subst hx
   have HR := Lib.hid (show callfM K S = (S1, 5) by rw [HX.out, if_pos rfl])
   go_wp2_with fail
   go_ret
   rw [HR.out]
   exact ⟨rfl, HA.out, HO.out⟩
  ·have HX2 := Lib.hid (show callfM K S = callfL K x0 S1 K.mods.length 0 by rw [HX.out, if_neg hx])
   have d := beq_eq_false_iff_ne.2 (show (x0 : Int) ≠ 0 by omega)
   have c1 := HA.out.c1
   have hml1 := HA.out.lt
   clear HX hx
   go_wp2_with fail
   clear d c1 hc0 hml1
   go_loopg [28] K.mods.length (fun g x wr => ∃ j m : Nat, x = .int .i64 (j : Nat) ∧ j + m = K.mods.length ∧ m ≤ g ∧ Below w1.heap.size w1 wr ∧ callfM K S = callfL K x0 S1 m j)
   case atStart => exact ⟨0, K.mods.length, rfl, by omega, Nat.le_refl _, Below.refl _ _, HX2.out⟩
   case round =>
    obtain ⟨j, m, rfl, hj, hmg, hb, he⟩ := hrel
    have H1 := Lib.hid (HA.out.grow hb)
    have HO1 := Lib.hid (HO.out.trans (Only.of_below (bs := K.bs) hb))
    have HB := Lib.hid hb
    have HE := Lib.hid he
    have C0 := Lib.hid ((hb.cell (p := ⟨b, o, none⟩) hlt).trans HC0.out)
    have HJ := Lib.hid hj
    have hjm : j ≤ 64 := by omega
    clear hb he
    cases m with
    | succ m =>
      have hjl : j < K.mods.length := by omega
      have d0 : (j : Int) < (K.mods.length : Int) := by omega
      obtain ⟨fb, fo, c6, hfb, f0⟩ := first_cell (H1.out.grow (drew_below wr)) (j := j) (by omega)
      have HFJ := Lib.hid (hFr j)
      have hjf : (j : Int) < (K.first.length : Int) := by omega
      have HE2 := Lib.hid (show callfM K S = if (x0 : Int) - K.first.getD j 0 < 0 then callfL K x0 S1 m (j + 1)
       else if (K.mods.getD j default).procs.length ≤ (x0 : Int) - K.first.getD j 0 then callfL K x0 S1 m (j + 1)
       else if (procOf K j ((x0 : Int) - K.first.getD j 0)).level ≠ 1 then (S1, 13)
       else if (procOf K j ((x0 : Int) - K.first.getD j 0)).params ≠ S1.args.getD 0 0 then (S1, 13)
       else enterM K j ((x0 : Int) - K.first.getD j 0) 0 S1 by rw [HE.out]; rfl)
      clear HE hj
      generalize K.first.getD j 0 = f at *
      obtain ⟨p, hpq⟩ : ∃ p, (x0 : Int) - f = p := ⟨_, rfl⟩
      rw [hpq] at HE2
      have HPR := Lib.hid (show -2000000 ≤ p ∧ p ≤ 65536 by have := HFJ.out; omega)
      have E1 := Lib.hid (show IntKind.i64.wrap ((x0 : Int) - f) = p by rw [hpq]; exact IntWalk.i64_in _ (by have := HPR.out; omega))
      have E0 := Lib.hid (show IntKind.i64.wrap (x0 : Int) = (x0 : Int) from IntWalk.i64_in _ (by omega))
      clear hpq
      go_upto_region 9 with (fail)
      refine wp_region_tail 12 (by kernel_rfl) (by kernel_rfl) ?_
      have H2 := Lib.hid (H1.out.grow (drew_below wr))
      have HO2 := Lib.hid (HO1.out.trans (Only.of_below (bs := K.bs) (drew_below wr)))
      have HB2 := Lib.hid (HB.out.trans ((drew_below wr).mono HB.out.size))
      have C2 := Lib.hid (((drew_below wr).cell (p := ⟨b, o, none⟩) (lt_of_cell C0.out)).trans C0.out)
      clear H1 HO1 HB C0 d0
      generalize wr.drew = w2 at *
      have c0 := C2.out
      have hbl := H2.out.lt
      simp only [List.take_succ_cons, List.take_zero, List.drop_succ_cons, List.drop_zero]
      repeat still_step
      refine wpStill_nil ?_
      rw [E0.out, E1.out]
      clear c0 hbl c6 hfb f0 E0 E1
      by_cases hp0 : p < 0
      ·have d1 : decide (p < 0) = true := decide_eq_true hp0
       have HE3 := Lib.hid (show callfM K S = callfL K x0 S1 m (j + 1) by rw [HE2.out, if_pos hp0])
       clear HE2
       go_wp2_with fail
       go_roundg m
       case measure => omega
       case rel =>
        have := HJ.out
        exact ⟨j + 1, m, rfl, by omega, Nat.le_refl _, HB2.out, HE3.out⟩
      have hp0' : 0 ≤ p := by omega
      have d1 : decide (p < 0) = false := decide_eq_false hp0
      by_cases hp1 : ((K.mods.getD j default).procs.length : Int) ≤ p
      ·have HPN := Lib.hid (fun W' (h' : At K S1 W') => procs_no K S1 (j : Int) p (by omega) (by omega) (by rw [Int.toNat_natCast]; omega) W' h')
       have HE3 := Lib.hid (show callfM K S = callfL K x0 S1 m (j + 1) by rw [HE2.out, if_neg hp0, if_pos hp1])
       clear HE2 hp1
       go_wp2_with fail
       refine (HPN.out _ H2.out).mono ?_
       rintro e w3 ⟨rfl, hb3⟩
       have HB3 := Lib.hid (HB2.out.trans (hb3.mono HB2.out.size))
       clear hb3 H2 HO2 HB2 C2
       go_wp2_with fail
       go_roundg m
       case measure => omega
       case rel =>
        have := HJ.out
        exact ⟨j + 1, m, rfl, by omega, Nat.le_refl _, HB3.out, HE3.out⟩
      have hpn : p < ((K.mods.getD j default).procs.length : Int) := by omega
      have HPY := Lib.hid (fun W' (h' : At K S1 W') => procs_yes K S1 (j : Int) p (by omega) (by omega) (by rw [Int.toNat_natCast]; exact hpn) W' h')
      have HEN := Lib.hid (fun W' (h' : At K S1 W') => enter_any K HK.out S1 HS.out (j : Int) p 0 (by omega) (by omega) hp0' (by rw [Int.toNat_natCast]; exact hpn) hd0 hd1 W' h')
      have HLV := Lib.hid (fun W' (h' : At K S1 W') => level_any h' (m := (j : Int)) (p := p) (by omega) (by omega) hp0' (by rw [Int.toNat_natCast]; exact hpn))
      have HE3 := Lib.hid (show callfM K S = if (procOf K j p).level ≠ 1 then (S1, 13) else if (procOf K j p).params ≠ S1.args.getD 0 0 then (S1, 13) else enterM K j p 0 S1 by rw [HE2.out, if_neg hp0, if_neg hp1])
      clear HE2 hp0 hp1
      go_wp2_with fail
      refine (HPY.out _ H2.out).mono ?_
      rintro e w3 ⟨rfl, hb3⟩
      have H3 := Lib.hid (H2.out.grow hb3)
      have HO3 := Lib.hid (HO2.out.trans (Only.of_below (bs := K.bs) hb3))
      clear hb3 H2 HO2 HB2 C2 HPY
      obtain ⟨mb, mo, pb, po, pc, c1, hmb, kc, hpb, hP⟩ := HLV.out _ H3.out
      rw [Int.toNat_natCast] at kc
      have hbl := H3.out.lt
      generalize (K.mods.getD j default).procs.length = npl at *
      generalize procOf K (j : Int) p = pr at *
      obtain ⟨ga, gp, gl, gd, gv, gf⟩ := pr
      obtain ⟨r0, r1, r2, r3, r4, r5⟩ := hP
      simp only at r0 r1 r2 r3 r4 r5 HE3
      go_upto_region 12 with (fail)
      have HX4 := Lib.hid (Bx.new w3 #[.int .i64 ga, .int .i64 gp, .int .i64 gl, .int .i64 gd, .int .i64 gv, .bool gf] 113)
      have H4 := Lib.hid (H3.out.grow (alloc_below w3 (.cells #[.int .i64 ga, .int .i64 gp, .int .i64 gl, .int .i64 gd, .int .i64 gv, .bool gf] 113)))
      have HO4 := Lib.hid (HO3.out.trans (Only.of_below (bs := K.bs) (alloc_below w3 (.cells #[.int .i64 ga, .int .i64 gp, .int .i64 gl, .int .i64 gd, .int .i64 gv, .bool gf] 113))))
      clear H3 HO3 c1 hmb kc hpb r0 r1 r2 r3 r4 r5 hbl hpn d1
      generalize w3.alloc (.cells #[.int .i64 ga, .int .i64 gp, .int .i64 gl, .int .i64 gd, .int .i64 gv, .bool gf] 113) = w4 at *
      generalize w3.heap.size = bp at *
      obtain ⟨r0, r1, r2, r3, r4, r5⟩ := proc_cells HX4.out
      obtain ⟨ab, ao, ac, c16, hab, a0c⟩ := H4.out.arg (j := 0) HAL.out
      simp only [Nat.add_zero] at a0c
      have hal : 0 < S1.args.length := HAL.out
      have s0 := H4.out.lt
      have s1 := HX4.out.lt
      have HG := Lib.hid (fun x => H4.out.grow (growN_below w4 x))
      have HOG := Lib.hid (fun x => HO4.out.trans (Only.of_below (bs := K.bs) (growN_below w4 x)))
      clear H4 HO4
      generalize S1.args.getD 0 0 = q at *
      by_cases hv : gv = 1
      ·by_cases hq : gp = q
       ·have HR := Lib.hid (show callfM K S = enterM K j p 0 S1 by rw [HE3.out, if_neg (by simpa using hv), if_neg (by simpa using hq)])
        have d2 : (gv != 1) = false := by rw [hv]; rfl
        have d3 : (gp != q) = false := by rw [hq]; simp
        clear HE3 hv hq
        refine wp_region_grow (by kernel_rfl) (by kernel_rfl) ?_
        repeat (first | go_big_quiet_step (fail))
        refine wpQuiet_nil ?_
        rintro _ ⟨gx, rfl⟩
        have H5 := Lib.hid (HG.out gx)
        have HO5 := Lib.hid (HOG.out gx)
        clear HG HOG c16 hab a0c s0 s1 r0 r1 r2 r3 r4 r5 HX4
        generalize growN w4 gx = w5 at *
        go_wp2_with fail
        refine (HEN.out _ H5.out).mono ?_
        rintro e w6 ⟨rfl, h6, ho6⟩
        go_wp2_with fail
        go_ret
        rw [HR.out]
        exact ⟨rfl, h6, HO5.out.trans ho6⟩
       ·have HR := Lib.hid (show callfM K S = (S1, 13) by rw [HE3.out, if_neg (by simpa using hv), if_pos hq])
        have d2 : (gv != 1) = false := by rw [hv]; rfl
        have d3 : (gp != q) = true := bne_iff_ne.2 hq
        clear HE3 hv hq
        refine wp_region_grow (by kernel_rfl) (by kernel_rfl) ?_
        repeat (first | go_big_quiet_step (fail))
        refine wpQuiet_nil ?_
        rintro _ ⟨gx, rfl⟩
        go_wp2_with fail
        go_ret
        rw [HR.out]
        exact ⟨rfl, HG.out gx, HOG.out gx⟩
      ·have HR := Lib.hid (show callfM K S = (S1, 13) by rw [HE3.out, if_pos hv])
       have d2 : (gv != 1) = true := bne_iff_ne.2 hv
       clear HE3 hv
       refine wp_region_grow (by kernel_rfl) (by kernel_rfl) ?_
       repeat (first | go_big_quiet_step (fail))
       refine wpQuiet_nil ?_
       rintro _ ⟨gx, rfl⟩
       go_wp2_with fail
       go_ret
       rw [HR.out]
       exact ⟨rfl, HG.out gx, HOG.out gx⟩
    | zero =>
      have HR := Lib.hid (show callfM K S = (S1, 13) by rw [HE.out]; rfl)
      obtain rfl : j = K.mods.length := by omega
      clear HE
      go_wp2_with fail
      go_ret
      rw [HR.out]
      exact ⟨rfl, H1.out, HO1.out⟩
 ·have d := bne_iff_ne.2 (show (t : Int) ≠ 0 by omega)
  have HR := Lib.hid (show callfM K S = (S1, t) by rw [HP.out, callfR, if_pos (by simpa using ht)])
  go_wp2_with fail
  go_ret
  rw [HR.out]
  exact ⟨rfl, HA.out, HO.out⟩
end Go.Proofs.YtabenhpjgjjgnaaGreatDoor
/- A machine reads a byte. -/
namespace Go.Proofs.YtabenhpjgjjgnaaGreatDoor
open Go.RowKit
set_option maxRecDepth 100000
attribute [local go_sem ↓] Go.wp_at_zero Go.wp_at_succ
theorem tail_cut (c : UInt8) (l : List UInt8) (w : World) : (Instr.sliceAt 9 (.string ⟨(c :: l).toArray⟩) (some (.int .i64 1)) none none).run Tryz.prog w = .ok (.string ⟨l.toArray⟩) w := by
 have hs : (⟨(c :: l).toArray⟩ : ByteArray).size = l.length + 1 := by simp [ByteArray.size]
 have he : (⟨(c :: l).toArray⟩ : ByteArray).extract 1 (l.length + 1) = ⟨l.toArray⟩ := by
  apply ByteArray.ext
  simp
 rw [run_sliceAt_string _ _ _ _ _ _ Tryz.underlying9, run_slice_string_l w _ _ Tryz.underlying9 .i64 1 (by omega) (by rw [hs]; omega), hs]
 show Result.ok (Value.string ((⟨(c :: l).toArray⟩ : ByteArray).extract 1 (l.length + 1))) w = _
 rw [he]
def TermReadEnd (K : MK) (W : World) (c : Nat) (S : St) (e : Ending) (W' : World) : Prop := e = .returned (.int .u8 (c : Nat)) ∧ At K S W' ∧ Only K.bs W W'
set_option maxHeartbeats 1000000 in
theorem termRead_any (K : MK) (k : KOk K) (S : St) (W : World) (h : At K S W) : Calls Tryz.prog 159 #[.pointer (some ⟨K.bt, 0, none⟩)] W (TermReadEnd K W (S.inp.headD 0).toNat { S with inp := S.inp.tail }) := by
 obtain ⟨re, im, ⟨hr1, hr2⟩, hT⟩ := h.term
 have t0 : W.cell? ⟨K.bt, 0, none⟩ = some (.string ⟨S.inp.toArray⟩) := (hT.cell 0).trans rfl
 have t3 : W.cell? ⟨K.bt, 3, none⟩ = some (.complex .f64 re im) := (hT.cell 3).trans rfl
 have tf := hT.frozen
 have tl := hT.lt
 have H := Lib.hid h
 have HT := Lib.hid hT
 have HK := Lib.hid k
 clear h hT k
 cases hinp : S.inp with
 | nil =>
   have HR := Lib.hid (show ({ S with inp := ([] : List UInt8).tail } : St) = S by rw [List.tail_nil, ← hinp])
   rw [hinp] at t0
   have t0' : W.cell? ⟨K.bt, 0, none⟩ = some (.string ⟨#[]⟩) := t0
   clear t0 hinp
   go_enter Tryz.func159, Tryz.ntmps159
   go_wp2_with fail
   go_ret
   rw [HR.out]
   exact ⟨rfl, H.out, Only.refl _ _⟩
 | cons c l =>
   obtain ⟨re2, im2, hr3, hadd⟩ := csum_pos re im 4607182418800017408 0 hr1 hr2 (by decide +kernel) (Nat.zero_le _)
   rw [hinp] at t0
   have HINP := Lib.hid hinp
   clear hinp hr1 hr2
   go_enter Tryz.func159, Tryz.ntmps159
   go_wp2_with fail
   refine wp_region_tail 14 (by kernel_rfl) (by kernel_rfl) ?_
   have H1 := Lib.hid (H.out.grow (drew_below W))
   have HT1 := Lib.hid (HT.out.grow (drew_below W))
   have HO1 := Lib.hid (Only.of_below (bs := K.bs) (drew_below W))
   clear t0 t3 tf tl H HT
   generalize W.drew = w1 at *
   have t0 : w1.cell? ⟨K.bt, 0, none⟩ = some (.string ⟨(c :: l).toArray⟩) := by rw [← HINP.out]; exact (HT1.out.cell 0).trans rfl
   have tl := HT1.out.lt
   have tf := HT1.out.frozen
   have hcut := tail_cut c l
   simp only [List.take_succ_cons, List.take_zero, List.drop_succ_cons, List.drop_zero]
   repeat still_step
   refine wpStill_nil ?_
   have H2 := Lib.hid (HT1.out.set 0 (.string ⟨l.toArray⟩))
   have HF2 := Lib.hid (Below.heap_setCell w1 ⟨K.bt, 0, none⟩ (.string ⟨l.toArray⟩))
   have HO2 := Lib.hid (HO1.out.setCell (a := ⟨K.bt, 0, none⟩) HK.out.ht (.string ⟨l.toArray⟩))
   have HOa := Lib.hid ((Only.refl K.bs w1).setCell (a := ⟨K.bt, 0, none⟩) HK.out.ht (.string ⟨l.toArray⟩))
   go_upto_region 4 with (fail)
   clear t0 tl tf hcut HT1 HO1
   generalize w1.setCell ⟨K.bt, 0, none⟩ (.string ⟨l.toArray⟩) = w2 at *
   have t3 : w2.cell? ⟨K.bt, 3, none⟩ = some (.complex .f64 re im) := (H2.out.cell 3).trans rfl
   have tl := H2.out.lt
   have tf := H2.out.frozen
   have H3 := Lib.hid (H2.out.set 3 (.complex .f64 re2 im2))
   have HF3 := Lib.hid (Below.heap_setCell w2 ⟨K.bt, 3, none⟩ (.complex .f64 re2 im2))
   have HO3 := Lib.hid (HO2.out.setCell (a := ⟨K.bt, 3, none⟩) HK.out.ht (.complex .f64 re2 im2))
   go_wp2_with fail
   go_ret
   have hA := (H1.out).setTerm (inp := l) (out := S.out) HK.out hr3 H3.out (HOa.out.setCell (a := ⟨K.bt, 3, none⟩) HK.out.ht (.complex .f64 re2 im2)) (fun j _ hj => (HF3.out j hj).trans (HF2.out j hj))
   exact ⟨rfl, hA, HO3.out⟩
theorem read_any (K : MK) (k : KOk K) (S : St) (s : SOk K S) (W : World) (h : At K S W) : Calls Tryz.prog 95 #[.pointer (some ⟨K.b, 0, none⟩)] W (OpEnd K W (readM K S)) := by
 have s' : SOk K { S with inp := S.inp.tail } := ⟨⟨s.mod0, s.mod1, s.proc0, s.proc1⟩, s.fp1, s.sp0, s.sp1, s.top⟩
 have HC := Lib.hid (termRead_any K k S W h)
 have HK := Lib.hid k
 have HS := Lib.hid s'
 have HR := Lib.hid (show readM K S = pushM K (S.inp.headD 0).toNat { S with inp := S.inp.tail } from rfl)
 have hc := (S.inp.headD 0).toNat_lt
 have c0 := h.c0
 have hlt := h.lt
 clear h k s s'
 generalize (S.inp.headD 0).toNat = x at *
 have hw : IntKind.u16.wrap (x : Int) = (x : Int) := by rw [IntKind.wrap_u16]; omega
 go_enter Tryz.func95, Tryz.ntmps95
 go_wp2_with fail
 refine (HC.out).mono ?_
 rintro e w1 ⟨rfl, h1, ho1⟩
 have H1 := Lib.hid h1
 have HO1 := Lib.hid ho1
 clear h1 ho1
 go_wp2_with fail
 refine (push_any K HK.out _ HS.out x (by omega) _ H1.out).mono ?_
 rintro e w2 ⟨rfl, h2, ho2⟩
 go_wp2_with fail
 go_ret
 rw [HR.out]
 exact ⟨rfl, h2, HO1.out.trans ho2⟩
end Go.Proofs.YtabenhpjgjjgnaaGreatDoor
