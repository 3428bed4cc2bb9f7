/- A machine stores a word into a word of a module's data, as a closure. A machine pushes the address of a word of a module's data, as a closure. Runs by pieces, in plain words. A machine's step. A new machine may run. Condition: what lies in memory can lie there; what each theorem says. -/
import Derived.Test.YtabenhpjgjjgnaaGreatDoorBaw
import Derived.Test.YtabenhpjgjjgnaaGreatDoorBav
import Derived.Test.YtabenhpjgjjgnaaGreatDoorBbe
import Derived.Test.YtabenhpjgjjgnaaGreatDoorBay
import Derived.Test.YtabenhpjgjjgnaaGreatDoorBax
import Derived.Test.YtabenhpjgjjgnaaGreatDoorBaz
import Derived.Test.YtabenhpjgjjgnaaGreatDoorBba
import Derived.Test.YtabenhpjgjjgnaaGreatDoorBbc
import Derived.Test.YtabenhpjgjjgnaaGreatDoorBbd
import Derived.Test.YtabenhpjgjjgnaaGreatDoorBao
import Derived.Test.YtabenhpjgjjgnaaGreatDoorBas
import Derived.Test.YtabenhpjgjjgnaaGreatDoorBap
/- A machine stores a word into a word of a module's data, as a closure. -/
namespace Go.Proofs.YtabenhpjgjjgnaaGreatDoor
open Go.RowKit
set_option maxRecDepth 100000
attribute [local go_sem ↓] Go.wp_at_zero Go.wp_at_succ
set_option maxHeartbeats 2000000 in
theorem globalStores_any (K : MK) (k : KOk K) (hF : K.data.length = K.mods.length) (hFr : ∀ j, 0 ≤ K.data.getD j 0 ∧ K.data.getD j 0 ≤ 1000000) (S : St) (s : SOk K S) (ha : 1 < S.args.length) (hq0 : 0 ≤ S.args.getD 0 0) (hq1 : S.args.getD 0 0 ≤ 1000000) (hp0 : 0 ≤ S.args.getD 1 0) (hp1 : S.args.getD 1 0 ≤ 1000000) (W : World) (h : At K S W) (x y : Nat) (hx : x ∉ K.bs) (hy : y ∉ K.bs)
 (cx : W.cell? ⟨x, 0, none⟩ = some (.pointer (some ⟨K.b, 0, none⟩))) (cy : W.cell? ⟨y, 0, none⟩ = some (.func (.func 69) #[.pointer (some ⟨K.b, 0, none⟩)] #[])) :
 Calls Tryz.prog 132 #[.pointer (some ⟨x, 0, none⟩), .pointer (some ⟨y, 0, none⟩)] W (OpEnd K W (globalM K (storesM K) S)) := by
 have HP := Lib.hid (show globalM K (storesM K) S = globalR K (moduleM K S) (storesM K) S from rfl)
 have HI := Lib.hid (module_in K k S s.toROk hq0)
 have HC := Lib.hid (module7_any K k S s (by omega) hq0 hq1 W h)
 have H := Lib.hid h
 have HAL := Lib.hid ha
 have HML := Lib.hid k.mods_le
 have DX := Lib.hid cx
 have DY := Lib.hid cy
 clear h ha cy hx hy
 generalize moduleM K S = r at *
 obtain ⟨m, t⟩ := r
 have HI := Lib.hid (show t = 0 → 0 ≤ m ∧ m < K.mods.length from HI.out)
 go_enter Tryz.func132, Tryz.ntmps132
 go_wp2_with fail
 refine (HC.out).mono ?_
 rintro e w1 ⟨rfl, hb1⟩
 have H1 := Lib.hid (H.out.grow hb1)
 have HO1 := Lib.hid (Only.of_below (bs := K.bs) hb1)
 have DX1 := Lib.hid ((hb1.cell (p := ⟨x, 0, none⟩) (lt_of_cell DX.out)).trans DX.out)
 have DY1 := Lib.hid ((hb1.cell (p := ⟨y, 0, none⟩) (lt_of_cell DY.out)).trans DY.out)
 clear hb1 H HC DX DY cx
 dsimp only
 by_cases ht : t = 0
 ·subst ht
  obtain ⟨g0, g1⟩ := HI.out rfl
  have HX := Lib.hid (show globalM K (storesM K) S = if (K.mods.getD m.toNat default).data ≤ S.args.getD 1 0 then (S, 15) else storesM K (K.data.getD m.toNat 0 + S.args.getD 1 0) S by rw [HP.out, globalR, if_neg (by simp)])
  obtain ⟨ab, ao, ac, c16, hab, a1c⟩ := H1.out.arg (j := 1) HAL.out
  have hal : 1 < S.args.length := HAL.out
  have hlt := H1.out.lt
  obtain ⟨mb, mo, c1, hmb, kd⟩ := data_cell H1.out (m := m.toNat) (by omega)
  have dx := DX1.out
  have dxl := lt_of_cell dx
  simp only at dxl
  clear HP HI
  generalize ha1 : S.args.getD 1 0 = p at *
  generalize (K.mods.getD m.toNat default).data = np at *
  go_wp2_with fail
  refine wp_region_grow (by kernel_rfl) (by kernel_rfl) ?_
  repeat (first | go_big_quiet_step (fail))
  refine wpQuiet_nil ?_
  rintro _ ⟨gx, rfl⟩
  have H2 := Lib.hid (H1.out.grow (growN_below w1 gx))
  have HO2 := Lib.hid (HO1.out.trans (Only.of_below (growN_below w1 gx)))
  have DX2 := Lib.hid (((growN_below w1 gx).cell (p := ⟨x, 0, none⟩) dxl).trans DX1.out)
  have DY2 := Lib.hid (((growN_below w1 gx).cell (p := ⟨y, 0, none⟩) (lt_of_cell DY1.out)).trans DY1.out)
  clear c16 hab a1c hlt H1 HO1 c1 hmb kd dx dxl DX1 DY1
  generalize growN w1 gx = w2 at *
  by_cases hp : np ≤ p
  ·have HR := Lib.hid (show globalM K (storesM K) S = (S, 15) by rw [HX.out, if_pos hp])
   have d0 := decide_eq_true hp
   go_wp2_with fail
   go_ret
   rw [HR.out]
   exact ⟨rfl, H2.out, HO2.out⟩
  ·have HR := Lib.hid (show globalM K (storesM K) S = storesM K (K.data.getD m.toNat 0 + p) S by rw [HX.out, if_neg hp])
   have d0 : decide (np ≤ p) = false := decide_eq_false hp
   have hp' : p < np := by omega
   clear hp HX
   go_wp2_with fail
   refine wp_region_tail 15 (by kernel_rfl) (by kernel_rfl) ?_
   have dx := ((drew_below w2).cell (p := ⟨x, 0, none⟩) (lt_of_cell DX2.out)).trans DX2.out
   have dy := ((drew_below w2).cell (p := ⟨y, 0, none⟩) (lt_of_cell DY2.out)).trans DY2.out
   have H3 := Lib.hid (H2.out.grow (drew_below w2))
   have HO3 := Lib.hid (HO2.out.trans (Only.of_below (drew_below w2)))
   clear H2 HO2 DX2 DY2 d0
   generalize w2.drew = w3 at *
   obtain ⟨ab, ao, ac, c16, hab, a1c⟩ := H3.out.arg (j := 1) HAL.out
   rw [ha1] at a1c
   have hlt := H3.out.lt
   have c5 := H3.out.c5
   obtain ⟨fb, fo, hfe, hfb, hfc⟩ := (H3.out.data.reads (mask_reads _ _)).at_ (j := m.toNat) (by omega)
   rw [hfe] at c5
   obtain ⟨f0, f1⟩ := hFr m.toNat
   have hfl : m < K.data.length := by omega
   simp only [Nat.mul_one] at hfc
   generalize K.data.getD m.toNat 0 = f at *
   have hal1 : (1 : Int) < (S.args.length : Int) := by have := HAL.out; omega
   simp only [List.take_succ_cons, List.take_zero, List.drop_succ_cons, List.drop_zero]
   repeat still_step
   refine wpStill_nil ?_
   go_wp2_with fail
   refine (stores_any K k S s (f + p) _ H3.out).mono ?_
   rintro e w5 ⟨rfl, h5, ho5⟩
   go_wp2_with fail
   go_ret
   rw [HR.out]
   exact ⟨rfl, h5, HO3.out.trans ho5⟩
 ·have d := bne_iff_ne.2 (show (t : Int) ≠ 0 by omega)
  have HR := Lib.hid (show globalM K (storesM K) S = (S, t) by rw [HP.out, globalR, if_pos (by simpa using ht)])
  go_wp2_with fail
  go_ret
  rw [HR.out]
  exact ⟨rfl, H1.out, HO1.out⟩
end Go.Proofs.YtabenhpjgjjgnaaGreatDoor
/- A machine pushes the address of a word of a module's data, as a closure. -/
namespace Go.Proofs.YtabenhpjgjjgnaaGreatDoor
open Go.RowKit
set_option maxRecDepth 100000
attribute [local go_sem ↓] Go.wp_at_zero Go.wp_at_succ
set_option maxHeartbeats 2000000 in
theorem globalAddress_any (K : MK) (k : KOk K) (hF : K.data.length = K.mods.length) (hFr : ∀ j, 0 ≤ K.data.getD j 0 ∧ K.data.getD j 0 ≤ 1000000) (S : St) (s : SOk K S) (ha : 1 < S.args.length) (hq0 : 0 ≤ S.args.getD 0 0) (hq1 : S.args.getD 0 0 ≤ 1000000) (hp0 : 0 ≤ S.args.getD 1 0) (hp1 : S.args.getD 1 0 ≤ 1000000) (W : World) (h : At K S W) (x y : Nat) (hx : x ∉ K.bs) (hy : y ∉ K.bs)
 (cx : W.cell? ⟨x, 0, none⟩ = some (.pointer (some ⟨K.b, 0, none⟩))) (cy : W.cell? ⟨y, 0, none⟩ = some (.func (.func 70) #[.pointer (some ⟨K.b, 0, none⟩)] #[])) :
 Calls Tryz.prog 132 #[.pointer (some ⟨x, 0, none⟩), .pointer (some ⟨y, 0, none⟩)] W (OpEnd K W (globalM K (addressM K) S)) := by
 have HP := Lib.hid (show globalM K (addressM K) S = globalR K (moduleM K S) (addressM K) S from rfl)
 have HI := Lib.hid (module_in K k S s.toROk hq0)
 have HC := Lib.hid (module7_any K k S s (by omega) hq0 hq1 W h)
 have H := Lib.hid h
 have HAL := Lib.hid ha
 have HML := Lib.hid k.mods_le
 have DX := Lib.hid cx
 have DY := Lib.hid cy
 clear h ha cy hx hy
 generalize moduleM K S = r at *
 obtain ⟨m, t⟩ := r
 have HI := Lib.hid (show t = 0 → 0 ≤ m ∧ m < K.mods.length from HI.out)
 go_enter Tryz.func132, Tryz.ntmps132
 go_wp2_with fail
 refine (HC.out).mono ?_
 rintro e w1 ⟨rfl, hb1⟩
 have H1 := Lib.hid (H.out.grow hb1)
 have HO1 := Lib.hid (Only.of_below (bs := K.bs) hb1)
 have DX1 := Lib.hid ((hb1.cell (p := ⟨x, 0, none⟩) (lt_of_cell DX.out)).trans DX.out)
 have DY1 := Lib.hid ((hb1.cell (p := ⟨y, 0, none⟩) (lt_of_cell DY.out)).trans DY.out)
 clear hb1 H HC DX DY cx
 dsimp only
 by_cases ht : t = 0
 ·subst ht
  obtain ⟨g0, g1⟩ := HI.out rfl
  have HX := Lib.hid (show globalM K (addressM K) S = if (K.mods.getD m.toNat default).data ≤ S.args.getD 1 0 then (S, 15) else addressM K (K.data.getD m.toNat 0 + S.args.getD 1 0) S by rw [HP.out, globalR, if_neg (by simp)])
  obtain ⟨ab, ao, ac, c16, hab, a1c⟩ := H1.out.arg (j := 1) HAL.out
  have hal : 1 < S.args.length := HAL.out
  have hlt := H1.out.lt
  obtain ⟨mb, mo, c1, hmb, kd⟩ := data_cell H1.out (m := m.toNat) (by omega)
  have dx := DX1.out
  have dxl := lt_of_cell dx
  simp only at dxl
  clear HP HI
  generalize ha1 : S.args.getD 1 0 = p at *
  generalize (K.mods.getD m.toNat default).data = np at *
  go_wp2_with fail
  refine wp_region_grow (by kernel_rfl) (by kernel_rfl) ?_
  repeat (first | go_big_quiet_step (fail))
  refine wpQuiet_nil ?_
  rintro _ ⟨gx, rfl⟩
  have H2 := Lib.hid (H1.out.grow (growN_below w1 gx))
  have HO2 := Lib.hid (HO1.out.trans (Only.of_below (growN_below w1 gx)))
  have DX2 := Lib.hid (((growN_below w1 gx).cell (p := ⟨x, 0, none⟩) dxl).trans DX1.out)
  have DY2 := Lib.hid (((growN_below w1 gx).cell (p := ⟨y, 0, none⟩) (lt_of_cell DY1.out)).trans DY1.out)
  clear c16 hab a1c hlt H1 HO1 c1 hmb kd dx dxl DX1 DY1
  generalize growN w1 gx = w2 at *
  by_cases hp : np ≤ p
  ·have HR := Lib.hid (show globalM K (addressM K) S = (S, 15) by rw [HX.out, if_pos hp])
   have d0 := decide_eq_true hp
   go_wp2_with fail
   go_ret
   rw [HR.out]
   exact ⟨rfl, H2.out, HO2.out⟩
  ·have HR := Lib.hid (show globalM K (addressM K) S = addressM K (K.data.getD m.toNat 0 + p) S by rw [HX.out, if_neg hp])
   have d0 : decide (np ≤ p) = false := decide_eq_false hp
   have hp' : p < np := by omega
   clear hp HX
   go_wp2_with fail
   refine wp_region_tail 15 (by kernel_rfl) (by kernel_rfl) ?_
   have dx := ((drew_below w2).cell (p := ⟨x, 0, none⟩) (lt_of_cell DX2.out)).trans DX2.out
   have dy := ((drew_below w2).cell (p := ⟨y, 0, none⟩) (lt_of_cell DY2.out)).trans DY2.out
   have H3 := Lib.hid (H2.out.grow (drew_below w2))
   have HO3 := Lib.hid (HO2.out.trans (Only.of_below (drew_below w2)))
   clear H2 HO2 DX2 DY2 d0
   generalize w2.drew = w3 at *
   obtain ⟨ab, ao, ac, c16, hab, a1c⟩ := H3.out.arg (j := 1) HAL.out
   rw [ha1] at a1c
   have hlt := H3.out.lt
   have c5 := H3.out.c5
   obtain ⟨fb, fo, hfe, hfb, hfc⟩ := (H3.out.data.reads (mask_reads _ _)).at_ (j := m.toNat) (by omega)
   rw [hfe] at c5
   obtain ⟨f0, f1⟩ := hFr m.toNat
   have hfl : m < K.data.length := by omega
   simp only [Nat.mul_one] at hfc
   generalize K.data.getD m.toNat 0 = f at *
   have hal1 : (1 : Int) < (S.args.length : Int) := by have := HAL.out; omega
   simp only [List.take_succ_cons, List.take_zero, List.drop_succ_cons, List.drop_zero]
   repeat still_step
   refine wpStill_nil ?_
   go_wp2_with fail
   refine (address_any K k S s (f + p) _ H3.out).mono ?_
   rintro e w5 ⟨rfl, h5, ho5⟩
   go_wp2_with fail
   go_ret
   rw [HR.out]
   exact ⟨rfl, h5, HO3.out.trans ho5⟩
 ·have d := bne_iff_ne.2 (show (t : Int) ≠ 0 by omega)
  have HR := Lib.hid (show globalM K (addressM K) S = (S, t) by rw [HP.out, globalR, if_pos (by simpa using ht)])
  go_wp2_with fail
  go_ret
  rw [HR.out]
  exact ⟨rfl, H1.out, HO1.out⟩
end Go.Proofs.YtabenhpjgjjgnaaGreatDoor
/- Runs by pieces, in plain words. -/
namespace Go.Proofs.YtabenhpjgjjgnaaGreatDoor
open Go.RowKit
theorem code_len {K : MK} (k : KOk K) {m : ModL} (hm : m ∈ K.mods) : m.code.length ≤ 65535 := by
 have h := k.may
 unfold checkB at h
 simp only [Bool.and_eq_true] at h
 have h1 := List.all_eq_true.1 h.1.1.2 _ hm
 unfold modB headB at h1
 simp only [Bool.and_eq_true, Bool.not_eq_true', decide_eq_false_iff_not] at h1
 omega
theorem Inv.dec {K : MK} {b : Int} {S : St} (i : Inv K b S) (ar : List Int) {nx : Int} (h0 : 0 ≤ nx) (h1 : nx ≤ 65535) : Inv K b { S with next := nx, args := ar } := ((keep_dec i.sok ar).inv i).next h0 h1
theorem Inv.tick {K : MK} {b : Int} {S : St} (i : Inv K b S) : Inv K b (tickS S) :=
 ⟨⟨⟨i.sok.mod0, i.sok.mod1, i.sok.proc0, i.sok.proc1⟩, i.sok.fp1, i.sok.sp0, i.sok.sp1, i.sok.top⟩, i.ord0, i.ord1, i.nxt0, i.nxt1, i.dep0, i.dep1, i.out, i.hp⟩
theorem Inv.go {K : MK} {b : Int} {S : St} (i : Inv K b S) : Inv K b (goS S) :=
 ⟨⟨⟨i.sok.mod0, i.sok.mod1, i.sok.proc0, i.sok.proc1⟩, i.sok.fp1, i.sok.sp0, i.sok.sp1, i.sok.top⟩, i.ord0, i.ord1, i.nxt0, i.nxt1, i.dep0, i.dep1, i.out, i.hp⟩
theorem res_step {K : MK} {b : Int} (k : KOk K) (hb0 : 0 ≤ b) {S : St} (i : Inv K b S) : Res K (b + 1) S (stepM K S).1 := by
 unfold stepM
 generalize hd : K16.decodeL (modOf K S).code S.at_ = r
 obtain ⟨⟨op, ar⟩, nx, er⟩ := r
 unfold stepR
 split
 ·exact ((keep_refl i.sok).res i).mono (by omega)
 ·rename_i he
  obtain rfl : er = 0 := by simpa using he
  have d := K16.dec_ok hd
  have hc := code_len k (modOf_mem i.sok.toROk)
  have j := i.dec ar d.nx0 (by have := d.nx1; omega)
  have q := res_doA k hb0 j d
  exact ⟨q.inv, q.ext, q.ste, q.kin⟩
structure Rest (K : MK) (S : St) : Prop where
 ste : 0 ≤ S.steps
 inv : S.kind = 0 → Inv K (S.steps + 1) S
 kin : S.kind ≤ 2
theorem run_stop (K : MK) (n : Nat) {S : St} (h : S.kind ≠ 0) : runM K n S = S := by
 cases n with
 | zero => rfl
 | succ n => unfold runM; rw [if_pos h]
theorem run_succ (K : MK) (n : Nat) (S : St) : runM K (n + 1) S = if S.kind ≠ 0 then S else runR (stepM K (tickS S)) (runM K n) := rfl
theorem run_add (K : MK) : ∀ (a b : Nat) (S : St), runM K (a + b) S = runM K b (runM K a S)
 | 0, b, S => by rw [Nat.zero_add]; rfl
 | a + 1, b, S => by
   rw [show a + 1 + b = (a + b) + 1 by omega]
   by_cases hk : S.kind ≠ 0
   ·rw [run_stop K _ hk, run_stop K _ hk, run_stop K _ hk]
   ·rw [run_succ, run_succ, if_neg hk, if_neg hk]
    unfold runR
    split
    ·exact (run_stop K b (by simp)).symm
    ·exact run_add K a b _
theorem rest_step {K : MK} (k : KOk K) {S : St} (r : Rest K S) (h0 : S.kind = 0) (h : (stepM K (tickS S)).2 = 0) : Rest K (goS (stepM K (tickS S)).1) ∧ (goS (stepM K (tickS S)).1).steps = S.steps + 1 ∧ S.out <+: (goS (stepM K (tickS S)).1).out := by
 have hs := r.ste
 have q := res_step k (by omega) (r.inv h0).tick
 have e : (goS (stepM K (tickS S)).1).steps = S.steps + 1 := q.ste
 refine ⟨⟨by rw [e]; omega, fun _ => ?_, ?_⟩, e, q.ext⟩
 ·rw [e]; exact q.inv.go
 ·show (stepM K (tickS S)).1.kind ≤ 2
  have hk : (tickS S).kind = 0 := h0
  rcases q.kin with h | h <;> omega
theorem run_rest {K : MK} (k : KOk K) : ∀ (n : Nat) {S : St}, Rest K S → Rest K (runM K n S) ∧ S.out <+: (runM K n S).out ∧ (runM K n S).steps ≤ S.steps + n ∧ ((runM K n S).kind = 0 → (runM K n S).steps = S.steps + n)
 | 0, S, r => ⟨r, List.prefix_refl _, by simp [runM], fun _ => by simp [runM]⟩
 | n + 1, S, r => by
   by_cases hk : S.kind ≠ 0
   ·rw [run_stop K _ hk]
    exact ⟨r, List.prefix_refl _, by omega, fun h => absurd h hk⟩
   ·have hk0 : S.kind = 0 := by omega
    have hs := r.ste
    rw [run_succ, if_neg hk]
    unfold runR
    split
    ·have q := res_step k (by omega) (r.inv hk0).tick
     have e : (stepM K (tickS S)).1.steps = S.steps + 1 := q.ste
     refine ⟨⟨by simp only; omega, fun h => by simp at h, by simp⟩, q.ext, by simp only; omega, fun h => by simp at h⟩
    ·rename_i ht
     obtain ⟨r', e, x⟩ := rest_step k r hk0 (by simpa using ht)
     obtain ⟨h1, h2, h3, h4⟩ := run_rest k n r'
     refine ⟨h1, x.trans h2, by omega, fun h => ?_⟩
     have := h4 h
     omega
theorem run_to {K : MK} (k : KOk K) (hstep : ∀ (S : St) (b : Int), 0 ≤ b → b ≤ 1000000000 → Inv K b S → StepOk K S (stepM K S)) : ∀ (n : Nat) (S : St), Rest K S → S.steps + n ≤ 100000000 → ∃ m, RunTo K (S.steps + n) m S (runM K n S)
 | 0, S, _, _ => ⟨0, .stop (fun _ => by omega)⟩
 | n + 1, S, r, h => by
   by_cases hk : S.kind ≠ 0
   ·rw [run_stop K _ hk]
    exact ⟨0, .stop (fun h => absurd h hk)⟩
   ·have hk0 : S.kind = 0 := by omega
    have hs := r.ste
    have st := hstep (tickS S) (S.steps + 1) (by omega) (by omega) (r.inv hk0).tick
    rw [run_succ, if_neg hk]
    unfold runR
    split
    ·rename_i ht
     exact ⟨0, .trap hk0 hs (by omega) st ht⟩
    ·rename_i ht
     have ht : (stepM K (tickS S)).2 = 0 := by simpa using ht
     obtain ⟨r', e, x⟩ := rest_step k r hk0 ht
     obtain ⟨m, hm⟩ := run_to k hstep n _ r' (by omega)
     rw [show (goS (stepM K (tickS S)).1).steps + (n : Int) = S.steps + ((n + 1 : Nat) : Int) by omega] at hm
     refine ⟨m + 1, .step (S1 := (stepM K (tickS S)).1) hk0 hs (by omega) ?_ hm⟩
     rw [← ht]
     exact st
end Go.Proofs.YtabenhpjgjjgnaaGreatDoor
/- A machine's step. -/
namespace Go.Proofs.YtabenhpjgjjgnaaGreatDoor
open Go.RowKit
set_option maxRecDepth 100000
attribute [local go_sem ↓] Go.wp_at_zero Go.wp_at_succ
structure KFacts (K : MK) : Prop where
 dataL : K.data.length = K.mods.length
 dataR : ∀ j, 0 ≤ K.data.getD j 0 ∧ K.data.getD j 0 ≤ 1000000
 firstL : K.first.length = K.mods.length
 firstR : ∀ j, 0 ≤ K.first.getD j 0 ∧ K.first.getD j 0 ≤ 1000000
 most0 : 0 ≤ K.most
 most1 : K.most ≤ 1000000
 few : K.order.length ≤ 1000
theorem doA_40 (K : MK) (S : St) : doA K 40 S = litM K S := rfl
theorem doA_41 (K : MK) (S : St) : doA K 41 S = globalM K (loadsM K) S := rfl
theorem doA_42 (K : MK) (S : St) : doA K 42 S = globalM K (storesM K) S := rfl
theorem doA_43 (K : MK) (S : St) : doA K 43 S = globalM K (addressM K) S := rfl
theorem doA_44 (K : MK) (S : St) : doA K 44 S = localM K (loadsM K) S := rfl
theorem doA_45 (K : MK) (S : St) : doA K 45 S = localM K (storesM K) S := rfl
theorem doA_46 (K : MK) (S : St) : doA K 46 S = localM K (addressM K) S := rfl
theorem doA_47 (K : MK) (S : St) : doA K 47 S = liM K S := rfl
theorem doA_48 (K : MK) (S : St) : doA K 48 S = siM K S := rfl
theorem doA_49 (K : MK) (S : St) : doA K 49 S = addM K S := rfl
theorem doA_50 (K : MK) (S : St) : doA K 50 S = ptrM K S := rfl
theorem doA_51 (K : MK) (S : St) : doA K 51 S = ixM K S := rfl
theorem doA_52 (K : MK) (S : St) : doA K 52 S = ixopM K S := rfl
theorem doA_53 (K : MK) (S : St) : doA K 53 S = rangesM K S := rfl
theorem doA_54 (K : MK) (S : St) : doA K 54 S = convM K S := rfl
theorem doA_55 (K : MK) (S : St) : doA K 55 S = jmpM K S := rfl
theorem doA_56 (K : MK) (S : St) : doA K 56 S = jumpsM K true S := rfl
theorem doA_57 (K : MK) (S : St) : doA K 57 S = jumpsM K false S := rfl
theorem doA_58 (K : MK) (S : St) : doA K 58 S = keepsM K true S := rfl
theorem doA_59 (K : MK) (S : St) : doA K 59 S = keepsM K false S := rfl
theorem doA_60 (K : MK) (S : St) : doA K 60 S = casesM K S := rfl
theorem doA_61 (K : MK) (S : St) : doA K 61 S = marksM K S := rfl
theorem doA_62 (K : MK) (S : St) : doA K 62 S = callM K S := rfl
theorem doA_63 (K : MK) (S : St) : doA K 63 S = callxM K S := rfl
theorem doA_64 (K : MK) (S : St) : doA K 64 S = callfM K S := rfl
theorem doA_65 (K : MK) (S : St) : doA K 65 S = leaveM K false S := rfl
theorem doA_66 (K : MK) (S : St) : doA K 66 S = retfM K S := rfl
theorem doA_67 (K : MK) (S : St) : doA K 67 S = numberM K S := rfl
theorem doA_68 (K : MK) (S : St) : doA K 68 S = turnsM K 1 [0, 0] S := rfl
theorem doA_69 (K : MK) (S : St) : doA K 69 S = turnsM K 1 [] S := rfl
theorem doA_70 (K : MK) (S : St) : doA K 70 S = turnsM K 2 [0, 1] S := rfl
theorem doA_71 (K : MK) (S : St) : doA K 71 S = movesM K S := rfl
theorem doA_72 (K : MK) (S : St) : doA K 72 S = makeM K S := rfl
theorem doA_73 (K : MK) (S : St) : doA K 73 S = freeM K S := rfl
theorem doA_74 (K : MK) (S : St) : doA K 74 S = readM K S := rfl
theorem doA_75 (K : MK) (S : St) : doA K 75 S = putcM K S := rfl
theorem doA_76 (K : MK) (S : St) : doA K 76 S = wrsM K S := rfl
theorem doA_77 (K : MK) (S : St) : doA K 77 S = textsM K true S := rfl
theorem doA_78 (K : MK) (S : St) : doA K 78 S = textsM K false S := rfl
theorem doA_79 (K : MK) (S : St) : doA K 79 S = writesM K [10] S := rfl
theorem doA_80 (K : MK) (S : St) : doA K 80 S = trapM S := rfl
theorem doA_81 (K : MK) (S : St) : doA K 81 S = turnsM K 2 [1, 0, 1] S := rfl
set_option maxHeartbeats 4000000 in
theorem step_all (K : MK) (k : KOk K) (g : KFacts K) (S : St) (b : Int) (hb0 : 0 ≤ b) (hb1 : b ≤ 1000000000) (i : Inv K b S) : StepOk K S (stepM K S) := by
 intro W h hen
 generalize hd : K16.decodeL (modOf K S).code S.at_ = r
 obtain ⟨⟨op, ar⟩, nx, er⟩ := r
 have e0 : stepM K S = stepR K ((op, ar), nx, er) S := by unfold stepM; rw [hd]
 refine step_any K k S i.sok op ar nx er hd W h hen _ (fun h0 => by rw [e0]; unfold stepR; rw [if_pos h0]) (fun he ht w' h' ho => ?_) (fun he ht w' B0 r ix s2 j k2 v h' ho hB hc q1 q2 q3 => ?_)
 all_goals
  subst he
  have e1 : stepM K S = doA K op { S with next := nx, args := ar } := by rw [e0]; rfl
  have d : K16.DecOk (modOf K S).code op ar nx := K16.dec_ok hd
  have hcl := code_len k (modOf_mem i.sok.toROk)
  have i' : Inv K b { S with next := nx, args := ar } := i.dec ar d.nx0 (by have := d.nx1; omega)
  have s' := i'.sok
  rw [e1]
  clear e0 e1
 ·have e : doA K op { S with next := nx, args := ar } = opM K op (takesN op) { S with next := nx, args := ar } := by unfold doA; rw [if_pos ht]
  rw [e]
  have h1 : 1 ≤ op ∧ op ≤ 31 ∧ (takesN op = 1 ∨ takesN op = 2) := by
   unfold takesN at ht ⊢
   split at ht
   ·exact absurd rfl ht
   ·rename_i h2
    refine ⟨by omega, by omega, ?_⟩
    rw [if_neg h2]
    split <;> simp
  rcases h1.2.2 with h2 | h2
  ·rw [h2]; exact op1_any K k _ s' op h1.1 h1.2.1 w' h'
  ·rw [h2]; exact op2_any K k _ s' op h1.1 h1.2.1 w' h'
 ·have hE := hen.only ho
  have n0 : 0 ≤ nx := d.nx0
  have n1 : nx ≤ 1000000 := by have := d.nx1; omega
  have d0 : -1000000000 ≤ S.depth := by have := i.dep0; omega
  have d1 : S.depth ≤ 1000000000 := by have := i.dep1; omega
  have ou : S.out.length ≤ 1000000 := by have := i.out; have := g.most1; omega
  have ht0 := d.there
  have h40 : 40 ≤ op ∧ op ≤ 81 := by
   unfold K16.thereB at ht0
   simp only [Bool.or_eq_true, Bool.and_eq_true, decide_eq_true_eq] at ht0
   rcases ht0 with h | h
   ·exfalso; revert ht; unfold takesN; rw [if_neg (by omega)]; split <;> simp
   ·exact h
  clear ht ht0
  have hcc : op = 40 ∨ op = 41 ∨ op = 42 ∨ op = 43 ∨ op = 44 ∨ op = 45 ∨ op = 46 ∨ op = 47 ∨ op = 48 ∨ op = 49 ∨ op = 50 ∨ op = 51 ∨ op = 52 ∨ op = 53 ∨ op = 54 ∨ op = 55 ∨ op = 56 ∨ op = 57 ∨ op = 58 ∨ op = 59 ∨ op = 60 ∨ op = 61 ∨ op = 62 ∨ op = 63 ∨ op = 64 ∨ op = 65 ∨ op = 66 ∨ op = 67 ∨ op = 68 ∨ op = 69 ∨ op = 70 ∨ op = 71 ∨ op = 72 ∨ op = 73 ∨ op = 74 ∨ op = 75 ∨ op = 76 ∨ op = 77 ∨ op = 78 ∨ op = 79 ∨ op = 80 ∨ op = 81 := by omega
  rcases hcc with rfl | rfl | rfl | rfl | rfl | rfl | rfl | rfl | rfl | rfl | rfl | rfl | rfl | rfl | rfl | rfl | rfl | rfl | rfl | rfl | rfl | rfl | rfl | rfl | rfl | rfl | rfl | rfl | rfl | rfl | rfl | rfl | rfl | rfl | rfl | rfl | rfl | rfl | rfl | rfl | rfl | rfl
  ·obtain rfl := tgt40 q1 q2
   obtain rfl := q3
   obtain ⟨a1, a2⟩ := d.w (by decide) (c := 87) (l := []) rfl
   rw [doA_40]
   exact callsV rfl (fun vs w => by go_simp) (lit_any K k _ s' a1 w' h')
  ·obtain rfl := tgt41 q1 q2
   obtain ⟨x, y, rfl, hx, hy, cx, cy⟩ := q3
   show CallsV (.func (.func 132) #[] _) _ _
   obtain ⟨a1, a2, a3⟩ := d.bw (by decide) rfl
   have v0 := d.wide 0; have v1 := d.wide 1; have v2 := d.wide 2; have v3 := d.wide 3
   rw [doA_41]
   exact callsV rfl (fun vs w => by go_simp) (globalLoads_any K k g.dataL g.dataR _ s' a1 a2 (Int.le_trans v0.2 (by decide)) a3 (Int.le_trans v1.2 (by decide)) w' h' x y hx hy cx cy)
  ·obtain rfl := tgt42 q1 q2
   obtain ⟨x, y, rfl, hx, hy, cx, cy⟩ := q3
   show CallsV (.func (.func 132) #[] _) _ _
   obtain ⟨a1, a2, a3⟩ := d.bw (by decide) rfl
   have v0 := d.wide 0; have v1 := d.wide 1; have v2 := d.wide 2; have v3 := d.wide 3
   rw [doA_42]
   exact callsV rfl (fun vs w => by go_simp) (globalStores_any K k g.dataL g.dataR _ s' a1 a2 (Int.le_trans v0.2 (by decide)) a3 (Int.le_trans v1.2 (by decide)) w' h' x y hx hy cx cy)
  ·obtain rfl := tgt43 q1 q2
   obtain ⟨x, y, rfl, hx, hy, cx, cy⟩ := q3
   show CallsV (.func (.func 132) #[] _) _ _
   obtain ⟨a1, a2, a3⟩ := d.bw (by decide) rfl
   have v0 := d.wide 0; have v1 := d.wide 1; have v2 := d.wide 2; have v3 := d.wide 3
   rw [doA_43]
   exact callsV rfl (fun vs w => by go_simp) (globalAddress_any K k g.dataL g.dataR _ s' a1 a2 (Int.le_trans v0.2 (by decide)) a3 (Int.le_trans v1.2 (by decide)) w' h' x y hx hy cx cy)
  ·obtain rfl := tgt44 q1 q2
   obtain ⟨x, y, rfl, hx, hy, cx, cy⟩ := q3
   show CallsV (.func (.func 134) #[] _) _ _
   obtain ⟨a1, a2, a3⟩ := d.bw (by decide) rfl
   have v0 := d.wide 0; have v1 := d.wide 1; have v2 := d.wide 2; have v3 := d.wide 3
   rw [doA_44]
   exact callsV rfl (fun vs w => by go_simp) (localLoads_any K k _ s' a1 a2 (Int.le_trans v0.2 (by decide)) a3 (Int.le_trans v1.2 (by decide)) w' h' x y hx hy cx cy)
  ·obtain rfl := tgt45 q1 q2
   obtain ⟨x, y, rfl, hx, hy, cx, cy⟩ := q3
   show CallsV (.func (.func 134) #[] _) _ _
   obtain ⟨a1, a2, a3⟩ := d.bw (by decide) rfl
   have v0 := d.wide 0; have v1 := d.wide 1; have v2 := d.wide 2; have v3 := d.wide 3
   rw [doA_45]
   exact callsV rfl (fun vs w => by go_simp) (localStores_any K k _ s' a1 a2 (Int.le_trans v0.2 (by decide)) a3 (Int.le_trans v1.2 (by decide)) w' h' x y hx hy cx cy)
  ·obtain rfl := tgt46 q1 q2
   obtain ⟨x, y, rfl, hx, hy, cx, cy⟩ := q3
   show CallsV (.func (.func 134) #[] _) _ _
   obtain ⟨a1, a2, a3⟩ := d.bw (by decide) rfl
   have v0 := d.wide 0; have v1 := d.wide 1; have v2 := d.wide 2; have v3 := d.wide 3
   rw [doA_46]
   exact callsV rfl (fun vs w => by go_simp) (localAddress_any K k _ s' a1 a2 (Int.le_trans v0.2 (by decide)) a3 (Int.le_trans v1.2 (by decide)) w' h' x y hx hy cx cy)
  ·obtain rfl := tgt47 q1 q2
   obtain rfl := q3
   obtain ⟨a1, a2⟩ := d.w (by decide) (c := 87) (l := []) rfl
   have v0 := d.wide 0; have v1 := d.wide 1; have v2 := d.wide 2; have v3 := d.wide 3
   rw [doA_47]
   exact callsV rfl (fun vs w => by go_simp) (li_any K k _ s' a1 (Int.le_trans (by decide) v0.1) (Int.le_trans v0.2 (by decide)) w' h')
  ·obtain rfl := tgt48 q1 q2
   obtain rfl := q3
   obtain ⟨a1, a2⟩ := d.w (by decide) (c := 87) (l := []) rfl
   have v0 := d.wide 0; have v1 := d.wide 1; have v2 := d.wide 2; have v3 := d.wide 3
   rw [doA_48]
   exact callsV rfl (fun vs w => by go_simp) (si_any K k _ s' a1 (Int.le_trans (by decide) v0.1) (Int.le_trans v0.2 (by decide)) w' h')
  ·obtain rfl := tgt49 q1 q2
   obtain rfl := q3
   obtain ⟨a1, a2⟩ := d.w (by decide) (c := 87) (l := []) rfl
   have v0 := d.wide 0; have v1 := d.wide 1; have v2 := d.wide 2; have v3 := d.wide 3
   rw [doA_49]
   exact callsV rfl (fun vs w => by go_simp) (add_any K k _ s' a1 (Int.le_trans (by decide) v0.1) (Int.le_trans v0.2 (by decide)) w' h')
  ·obtain rfl := tgt50 q1 q2
   obtain rfl := q3
   rw [doA_50]
   exact callsV rfl (fun vs w => by go_simp) (ptr_any K k _ s' w' h')
  ·obtain rfl := tgt51 q1 q2
   obtain rfl := q3
   have e := d.len (by decide)
   have v0 := d.wide 0; have v1 := d.wide 1; have v2 := d.wide 2; have v3 := d.wide 3
   rw [doA_51]
   exact callsV rfl (fun vs w => by go_simp) (ix_any K k _ s' (by simp only; rw [e]; decide) (Int.le_trans (by decide) v3.1) (Int.le_trans v3.2 (by decide)) w' h')
  ·obtain rfl := tgt52 q1 q2
   obtain rfl := q3
   obtain ⟨a1, a2⟩ := d.w (by decide) (c := 87) (l := []) rfl
   have v0 := d.wide 0; have v1 := d.wide 1; have v2 := d.wide 2; have v3 := d.wide 3
   rw [doA_52]
   exact callsV rfl (fun vs w => by go_simp) (ixop_any K k _ s' a1 (Int.le_trans (by decide) v0.1) (Int.le_trans v0.2 (by decide)) w' h')
  ·obtain rfl := tgt53 q1 q2
   obtain rfl := q3
   have e := d.len (by decide)
   rw [doA_53]
   exact callsV rfl (fun vs w => by go_simp) (ranges_any K k _ s' (by simp only; rw [e]; decide) w' h')
  ·obtain rfl := tgt54 q1 q2
   obtain rfl := q3
   rw [doA_54]
   exact callsV rfl (fun vs w => by go_simp) (conv_any' K k _ s' w' h')
  ·obtain rfl := tgt55 q1 q2
   obtain rfl := q3
   obtain ⟨a1, a2⟩ := d.w (by decide) (c := 74) (l := []) rfl
   have v0 := d.wide 0; have v1 := d.wide 1; have v2 := d.wide 2; have v3 := d.wide 3
   rw [doA_55]
   exact callsV rfl (fun vs w => by go_simp) (jmp_any K k _ s'.toROk a1 n0 n1 (Int.le_trans (by decide) v0.1) (Int.le_trans v0.2 (by decide)) w' h')
  ·obtain rfl := tgt56 q1 q2
   obtain ⟨x, y, rfl, hx, hy, cx, cy⟩ := q3
   show CallsV (.func (.func 146) #[] _) _ _
   obtain ⟨a1, a2⟩ := d.w (by decide) (c := 74) (l := []) rfl
   have v0 := d.wide 0; have v1 := d.wide 1; have v2 := d.wide 2; have v3 := d.wide 3
   rw [doA_56]
   exact callsV rfl (fun vs w => by go_simp) (jumps1_any K k _ s' true a1 n0 n1 (Int.le_trans (by decide) v0.1) (Int.le_trans v0.2 (by decide)) w' h' x y hx hy cx cy)
  ·obtain rfl := tgt57 q1 q2
   obtain ⟨x, y, rfl, hx, hy, cx, cy⟩ := q3
   show CallsV (.func (.func 146) #[] _) _ _
   obtain ⟨a1, a2⟩ := d.w (by decide) (c := 74) (l := []) rfl
   have v0 := d.wide 0; have v1 := d.wide 1; have v2 := d.wide 2; have v3 := d.wide 3
   rw [doA_57]
   exact callsV rfl (fun vs w => by go_simp) (jumps1_any K k _ s' false a1 n0 n1 (Int.le_trans (by decide) v0.1) (Int.le_trans v0.2 (by decide)) w' h' x y hx hy cx cy)
  ·obtain rfl := tgt58 q1 q2
   obtain ⟨x, y, rfl, hx, hy, cx, cy⟩ := q3
   show CallsV (.func (.func 147) #[] _) _ _
   obtain ⟨a1, a2⟩ := d.w (by decide) (c := 74) (l := []) rfl
   have v0 := d.wide 0; have v1 := d.wide 1; have v2 := d.wide 2; have v3 := d.wide 3
   rw [doA_58]
   exact callsV rfl (fun vs w => by go_simp) (keeps1_any K k _ s' true a1 n0 n1 (Int.le_trans (by decide) v0.1) (Int.le_trans v0.2 (by decide)) w' h' x y hx hy cx cy)
  ·obtain rfl := tgt59 q1 q2
   obtain ⟨x, y, rfl, hx, hy, cx, cy⟩ := q3
   show CallsV (.func (.func 147) #[] _) _ _
   obtain ⟨a1, a2⟩ := d.w (by decide) (c := 74) (l := []) rfl
   have v0 := d.wide 0; have v1 := d.wide 1; have v2 := d.wide 2; have v3 := d.wide 3
   rw [doA_59]
   exact callsV rfl (fun vs w => by go_simp) (keeps1_any K k _ s' false a1 n0 n1 (Int.le_trans (by decide) v0.1) (Int.le_trans v0.2 (by decide)) w' h' x y hx hy cx cy)
  ·obtain rfl := tgt60 q1 q2
   obtain rfl := q3
   rw [doA_60]
   exact callsV rfl (fun vs w => by go_simp) (cases_any K k _ s' (d.len60 rfl) d.short d.wide n0 n1 w' h')
  ·obtain rfl := tgt61 q1 q2
   obtain rfl := q3
   rw [doA_61]
   exact callsV rfl (fun vs w => by go_simp) (mark_any K k _ s' w' h')
  ·obtain rfl := tgt62 q1 q2
   obtain rfl := q3
   obtain ⟨a1, a2, a3⟩ := d.bw (by decide) rfl
   have v0 := d.wide 0; have v1 := d.wide 1; have v2 := d.wide 2; have v3 := d.wide 3
   rw [doA_62]
   exact callsV rfl (fun vs w => by go_simp) (call_any K k _ s' a1 a2 (Int.le_trans v0.2 (by decide)) a3 (Int.le_trans v1.2 (by decide)) d0 d1 w' h')
  ·obtain rfl := tgt63 q1 q2
   obtain rfl := q3
   obtain ⟨a1, a2, a3⟩ := d.bw (by decide) rfl
   have v0 := d.wide 0; have v1 := d.wide 1; have v2 := d.wide 2; have v3 := d.wide 3
   rw [doA_63]
   exact callsV rfl (fun vs w => by go_simp) (callx_any K k _ s' a1 a2 (Int.le_trans v0.2 (by decide)) a3 (Int.le_trans v1.2 (by decide)) d0 d1 w' h')
  ·obtain rfl := tgt64 q1 q2
   obtain rfl := q3
   obtain ⟨a1, a2⟩ := d.w (by decide) (c := 66) (l := []) rfl
   have v0 := d.wide 0; have v1 := d.wide 1; have v2 := d.wide 2; have v3 := d.wide 3
   rw [doA_64]
   exact callsV rfl (fun vs w => by go_simp) (callf_any K k g.firstL g.firstR _ s' a1 d0 d1 w' h')
  ·obtain rfl := tgt65 q1 q2
   obtain rfl := q3
   rw [doA_65]
   exact callsV rfl (fun vs w => by go_simp) (ret_any K k _ s' i'.ord0 i'.ord1 g.few d0 d1 w' h')
  ·obtain rfl := tgt66 q1 q2
   obtain rfl := q3
   rw [doA_66]
   exact callsV rfl (fun vs w => by go_simp) (retf_any K k _ hb0 i' g.few (by omega) w' h')
  ·obtain rfl := tgt67 q1 q2
   obtain rfl := q3
   obtain ⟨a1, a2, a3⟩ := d.bw (by decide) rfl
   have v0 := d.wide 0; have v1 := d.wide 1; have v2 := d.wide 2; have v3 := d.wide 3
   rw [doA_67]
   exact callsV rfl (fun vs w => by go_simp) (number7_any K k g.firstL g.firstR _ s' a1 a2 (Int.le_trans v0.2 (by decide)) a3 (Int.le_trans v1.2 (by decide)) w' h')
  ·obtain rfl := tgt68 q1 q2
   obtain ⟨x, y, z, A, c, rfl, hx, hy, hz, cx, cy, cz, hI⟩ := q3
   rw [doA_68]
   exact callsV rfl (fun vs w => by go_simp) (turns1_any K k _ s' 1 (by omega) [0, 0] (by simp) (by simp) w' h' x y z hx hy hz A c cx cy cz hI)
  ·obtain rfl := tgt69 q1 q2
   obtain ⟨x, y, z, A, c, rfl, hx, hy, hz, cx, cy, cz, hI⟩ := q3
   rw [doA_69]
   exact callsV rfl (fun vs w => by go_simp) (turns1_any K k _ s' 1 (by omega) [] (by simp) (by simp) w' h' x y z hx hy hz A c cx cy cz hI)
  ·obtain rfl := tgt70 q1 q2
   obtain ⟨x, y, z, A, c, rfl, hx, hy, hz, cx, cy, cz, hI⟩ := q3
   rw [doA_70]
   exact callsV rfl (fun vs w => by go_simp) (turns1_any K k _ s' 2 (by omega) [0, 1] (by simp) (by simp) w' h' x y z hx hy hz A c cx cy cz hI)
  ·obtain rfl := tgt71 q1 q2
   obtain rfl := q3
   obtain ⟨a1, a2⟩ := d.w (by decide) (c := 87) (l := []) rfl
   have v0 := d.wide 0; have v1 := d.wide 1; have v2 := d.wide 2; have v3 := d.wide 3
   rw [doA_71]
   exact callsV rfl (fun vs w => by go_simp) (move_op K k _ s' a1 (Int.le_trans (by decide) v0.1) (Int.le_trans v0.2 (by decide)) w' h')
  ·obtain rfl := tgt72 q1 q2
   obtain rfl := q3
   obtain ⟨a1, a2⟩ := d.w (by decide) (c := 87) (l := []) rfl
   have v0 := d.wide 0; have v1 := d.wide 1; have v2 := d.wide 2; have v3 := d.wide 3
   rw [doA_72]
   exact callsV rfl (fun vs w => by go_simp) (make_any K k _ s' i'.hp a1 (a2 (by decide)) v0.2 w' h')
  ·obtain rfl := tgt73 q1 q2
   obtain rfl := q3
   rw [doA_73]
   exact callsV rfl (fun vs w => by go_simp) (free_any K k _ s' w' h')
  ·obtain rfl := tgt74 q1 q2
   obtain rfl := q3
   rw [doA_74]
   exact callsV rfl (fun vs w => by go_simp) (read_any K k _ s' w' h')
  ·obtain rfl := tgt75 q1 q2
   obtain rfl := q3
   rw [doA_75]
   exact callsV rfl (fun vs w => by go_simp) (putc_any K k _ s' g.most0 g.most1 ou w' h')
  ·obtain rfl := tgt76 q1 q2
   obtain rfl := q3
   rw [doA_76]
   exact callsV rfl (fun vs w => by go_simp) (wrs_any K k _ s' g.most0 g.most1 ou w' h')
  ·obtain rfl := tgt77 q1 q2
   obtain ⟨x, y, rfl, hx, hy, cx, cy⟩ := q3
   show CallsV (.func (.func 162) #[] _) _ _
   rw [doA_77]
   exact callsV rfl (fun vs w => by go_simp) (texts1_any K k _ s' true g.most0 g.most1 ou w' (hE _ (Only.refl _ _)).p10 h' x y hx hy (fun W' ho' => (hE W' ho').p10) cx cy)
  ·obtain rfl := tgt78 q1 q2
   obtain ⟨x, y, rfl, hx, hy, cx, cy⟩ := q3
   show CallsV (.func (.func 162) #[] _) _ _
   rw [doA_78]
   exact callsV rfl (fun vs w => by go_simp) (texts1_any K k _ s' false g.most0 g.most1 ou w' (hE _ (Only.refl _ _)).p10 h' x y hx hy (fun W' ho' => (hE W' ho').p10) cx cy)
  ·obtain rfl := tgt79 q1 q2
   obtain rfl := q3
   rw [doA_79]
   exact callsV rfl (fun vs w => by go_simp) (wrln_any K k { S with next := nx, args := ar } g.most0 g.most1 ou w' h' B0 hc)
  ·obtain rfl := tgt80 q1 q2
   obtain rfl := q3
   obtain ⟨a1, a2⟩ := d.w (by decide) (c := 66) (l := []) rfl
   rw [doA_80]
   exact callsV rfl (fun vs w => by go_simp) (trap_any K _ a1 w' h')
  ·obtain rfl := tgt81 q1 q2
   obtain ⟨x, y, z, A, c, rfl, hx, hy, hz, cx, cy, cz, hI⟩ := q3
   rw [doA_81]
   exact callsV rfl (fun vs w => by go_simp) (turns1_any K k _ s' 2 (by omega) [1, 0, 1] (by simp) (by simp) w' h' x y z hx hy hz A c cx cy cz hI)
end Go.Proofs.YtabenhpjgjjgnaaGreatDoor
/- A new machine may run. -/
namespace Go.Proofs.YtabenhpjgjjgnaaGreatDoor
open Go.RowKit
set_option maxRecDepth 100000
theorem rest_start {K : MK} (k : KOk K) (hm : 0 ≤ K.most) (inp : List UInt8) : Rest K (startG K inp) ∧ (startG K inp).steps = 0 ∧ (startG K inp).out = [] := by
 have o1 : (zeroG (initAll K.n 1 K.mods (fun _ => 0)) inp).ord = 0 := rfl
 generalize hz : zeroG (initAll K.n 1 K.mods (fun _ => 0)) inp = z
 have e : startG K inp = { trapG (beginsM K z) with at_ := (trapG (beginsM K z)).next } := by unfold startG; rw [hz]
 rw [e]
 have z0 : z.ord = 0 ∧ z.steps = 0 ∧ z.out = [] ∧ z.kind = 0 ∧ z.last = 0 ∧ z.blocks = [] := by rw [← hz]; exact ⟨rfl, rfl, rfl, rfl, rfl, rfl⟩
 obtain ⟨z1, z2, z3, z4, z5, z6⟩ := z0
 unfold trapG beginsM
 split
 ·exact ⟨⟨by simp only [ne_eq, not_true_eq_false, if_false]; omega, fun h => by simp at h, by simp⟩, z2, z3⟩
 ·split
  ·exact ⟨⟨by simp only [ne_eq, if_true]; show 0 ≤ z.steps; omega, fun h => by simp at h, by simp⟩, z2, z3⟩
  ·rename_i h1 h2
   rw [z1] at h1
   have hol : 0 < K.order.length := by omega
   obtain ⟨⟨g0, g1⟩, g2, g3, g4⟩ := nextOk k (S := z) (by omega) (by omega)
   obtain ⟨⟨q0, q1⟩, _, _, ⟨q6, q7⟩, _⟩ := procOk k g3 g4
   refine ⟨⟨by show 0 ≤ z.steps; omega, fun _ => ?_, by show z.kind ≤ 2; omega⟩, z2, z3⟩
   refine ⟨⟨⟨g0, g1, Int.le_refl _, ?_⟩, Int.le_refl _, Int.le_refl _, ?_, ?_⟩, ?_, ?_, q0, q1, ?_, ?_, ?_, ?_⟩
   ·show (0 : Int) < ((K.mods.getD (nextMod K z).toNat default).procs.length : Int); omega
   ·show K.low + baseN (nextP K z) ≤ K.low + baseN (nextP K z) + (nextP K z).depth; omega
   ·show K.low + baseN (nextP K z) + (nextP K z).depth ≤ K.high; omega
   ·show 0 ≤ z.ord + 1; omega
   ·show z.ord + 1 ≤ K.order.length; omega
   ·show -(z.steps + 1) ≤ 0 + 1; omega
   ·show 0 + 1 ≤ z.steps + 1; omega
   ·show (z.out.length : Int) ≤ K.most; rw [z3]; simpa using hm
   ·show HOk K.high K.hn z.last z.blocks
    rw [z5, z6]
    exact ⟨fun x hx => (by cases hx), Int.le_refl _, by decide, fun x hx => (by cases hx), .nil, .nil⟩
theorem dataL_range : ∀ (l : List ModL) (a : Int), (∀ m ∈ l, 0 ≤ m.data) → 0 ≤ a → ∀ j, 0 ≤ (dataL a l).getD j 0 ∧ (dataL a l).getD j 0 ≤ a + sumD l
 | [], a, _, ha, j => by simp [dataL, sumD, ha]
 | x :: l, a, h, ha, 0 => by
   have := h x (List.mem_cons_self ..)
   have h2 : 0 ≤ sumD l := by
    have : ∀ (l : List ModL), (∀ m ∈ l, 0 ≤ m.data) → 0 ≤ sumD l := by
     intro l
     induction l with
     | nil => intro _; exact Int.le_refl _
     | cons y l ih => intro h; have := h y (List.mem_cons_self ..); have := ih (fun m hm => h m (List.mem_cons_of_mem _ hm)); simp only [sumD]; omega
    exact this l (fun m hm => h m (List.mem_cons_of_mem _ hm))
   simp only [dataL, List.getD_cons_zero, sumD]; omega
 | x :: l, a, h, ha, j + 1 => by
   have := h x (List.mem_cons_self ..)
   have := dataL_range l (a + x.data) (fun m hm => h m (List.mem_cons_of_mem _ hm)) (by omega) j
   simp only [dataL, List.getD_cons_succ, sumD]; omega
theorem firstL_range : ∀ (l : List ModL) (a : Int), 0 ≤ a → ∀ j, 0 ≤ (firstL a l).getD j 0 ∧ (firstL a l).getD j 0 ≤ a + sumP l
 | [], a, ha, j => by simp [firstL, sumP, ha]
 | x :: l, a, ha, 0 => by
   have h2 : ∀ l : List ModL, 0 ≤ sumP l := by
    intro l
    induction l with
    | nil => exact Int.le_refl _
    | cons y l ih => simp only [sumP]; omega
   have := h2 l
   simp only [firstL, List.getD_cons_zero, sumP]; omega
 | x :: l, a, ha, j + 1 => by
   have := firstL_range l (a + x.procs.length) (by omega) j
   simp only [firstL, List.getD_cons_succ, sumP]; omega
theorem facts_new {K : MK} {ms : List ModL} {o : List Int} {st hp out : Int} {inp : List UInt8} (k : KOk K) (h : NewG K ms o (dataL 1 ms) (firstL 1 ms) st hp out) (he : newErr ms o st hp out inp = 0) (hol : o.length ≤ 1000) : KFacts K := by
 obtain ⟨⟨hl0, hl1⟩, hmm⟩ := check_mods (ms := ms) (o := o) (by have := k.may; rwa [h.mods, h.order] at this)
 have hS := sum_le (l := ms) (fun m hm => (hmm m hm).1)
 have hD : ∀ m ∈ ms, 0 ≤ m.data := fun m hm => (hmm m hm).1.1.1
 have ht : 0 ≤ out ∧ out ≤ 16384 := by
  unfold newErr termErr at he
  split at he
  ·omega
  ·split at he
   ·omega
   ·split at he
    ·omega
    ·split at he <;> omega
 refine ⟨by rw [h.data, h.mods, dataL_len], fun j => ?_, by rw [h.first, h.mods, firstL_len], fun j => ?_, by rw [h.most]; exact ht.1, by rw [h.most]; omega, by rw [h.order]; exact hol⟩
 ·rw [h.data]
  have := dataL_range ms 1 hD (by decide) j
  have hn := h.n
  have := k.n_le
  have := k.high
  have := h.high
  have := k.lowh
  have := h.low
  omega
 ·rw [h.first]
  have := firstL_range ms 1 (by decide) j
  omega
theorem run_args (K : MK) : ∀ (n : Nat) (S : St) (a : List Int), ∃ a', runM K n { S with args := a } = { runM K n S with args := a' }
 | 0, S, a => ⟨a, rfl⟩
 | n + 1, S, a => by
   by_cases hk : S.kind ≠ 0
   ·rw [run_stop K _ (S := { S with args := a }) hk, run_stop K _ hk]
    exact ⟨a, rfl⟩
   ·rw [run_succ, run_succ, if_neg hk, if_neg (show ¬ ({ S with args := a } : St).kind ≠ 0 from hk)]
    have e : K16.decodeL (modOf K (tickS { S with args := a })).code (tickS { S with args := a }).at_ = K16.decodeL (modOf K (tickS S)).code (tickS S).at_ := rfl
    unfold stepM
    rw [e]
    generalize K16.decodeL (modOf K (tickS S)).code (tickS S).at_ = r
    unfold stepR
    by_cases hr : r.2.2 ≠ 0
    ·rw [if_pos hr, if_pos hr]
     exact ⟨a, rfl⟩
    ·rw [if_neg hr, if_neg hr]
     exact ⟨_, rfl⟩
def runF (K : MK) (fuel : Int) (S : St) : St := runM K (fuel - S.steps).toNat S
theorem Rest.args {K : MK} {S : St} (r : Rest K S) (a : List Int) : Rest K { S with args := a } :=
 ⟨r.ste, fun h => by
  have i := r.inv h
  exact ⟨⟨⟨i.sok.mod0, i.sok.mod1, i.sok.proc0, i.sok.proc1⟩, i.sok.fp1, i.sok.sp0, i.sok.sp1, i.sok.top⟩, i.ord0, i.ord1, i.nxt0, i.nxt1, i.dep0, i.dep1, i.out, i.hp⟩, r.kin⟩
theorem run_all (K : MK) (k : KOk K) (kf : KFacts K) (fuel : Int) (hf : fuel ≤ 1000000) (S : St) (r : Rest K S) (hs : S.steps ≤ 1000000) (a : List Int) (W : World) (h : At K { S with args := a } W) (hE : EnvK K W) :
 Calls Tryz.prog 10 #[.pointer (some ⟨K.b, 0, none⟩), .int .i64 fuel] W (RunEndA K W (runF K fuel S)) := by
 have h0 := r.ste
 obtain ⟨m, hm⟩ : ∃ m, RunTo K fuel m { S with args := a } (runM K (fuel - S.steps).toNat { S with args := a }) := by
  by_cases hge : S.steps ≤ fuel
  ·obtain ⟨m, hm⟩ := run_to k (fun S b hb0 hb1 i => step_all K k kf S b hb0 hb1 i) (fuel - S.steps).toNat { S with args := a } (r.args a) (by show S.steps + _ ≤ _; omega)
   have e : ({ S with args := a } : St).steps + ((fuel - S.steps).toNat : Int) = fuel := by show S.steps + _ = fuel; omega
   rw [e] at hm
   exact ⟨m, hm⟩
  ·have e : (fuel - S.steps).toNat = 0 := by omega
   rw [e]
   exact ⟨0, .stop (fun _ => by show fuel ≤ S.steps; omega)⟩
 obtain ⟨a', ha'⟩ := run_args K (fuel - S.steps).toNat S a
 rw [ha'] at hm
 refine (run_at K k fuel (by omega) m _ _ hm h0 W h hE).mono ?_
 rintro e w ⟨he, ho, b, hA⟩
 exact ⟨he, ho, b, hA⟩
end Go.Proofs.YtabenhpjgjjgnaaGreatDoor
