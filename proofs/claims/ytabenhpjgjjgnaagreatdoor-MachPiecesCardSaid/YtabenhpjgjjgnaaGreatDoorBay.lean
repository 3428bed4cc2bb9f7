/- A machine's ptr. A machine's memory. What all instructions of a machine do, in plain words. A machine's move. Condition: what lies in memory can lie there; what each theorem says. -/
import Derived.Test.YtabenhpjgjjgnaaGreatDoorBax
import Derived.Test.YtabenhpjgjjgnaaGreatDoorBav
import Derived.Test.YtabenhpjgjjgnaaGreatDoorBae
import Derived.Test.YtabenhpjgjjgnaaGreatDoorBaf
import Derived.Test.YtabenhpjgjjgnaaGreatDoorBaw
import Derived.Test.YtabenhpjgjjgnaaGreatDoorBao
import Derived.LoopN
import Derived.Deep.DeepCutAuto
import Derived.StillTailTactics
import Derived.Laws.IdiomCopy
/- A machine's ptr. -/
namespace Go.Proofs.YtabenhpjgjjgnaaGreatDoor
open Go.RowKit
set_option maxRecDepth 100000
attribute [local go_sem ↓] Go.wp_at_zero Go.wp_at_succ
theorem ptr_first (q t : Nat) (W : World) (hq : W.cell? ⟨q, 0, none⟩ = some (.int .u8 t)) : Calls Tryz.prog 142 #[.pointer (some ⟨q, 0, none⟩)] W (fun e w' => e = .returned (.int .u8 t) ∧ W = w') := by
 go_enter Tryz.func142, Tryz.ntmps142
 go_wp2_with fail
 go_ret
 exact ⟨rfl, rfl⟩
theorem ptr_traps (g q t : Nat) (cap1 : Array Value) (W : World) (hg0 : W.cell? ⟨g, 0, none⟩ = some (.func (.func 142) #[] #[.pointer (some ⟨q, 0, none⟩)])) (hg1 : W.cell? ⟨g, 1, none⟩ = some (.func (.func 143) #[] cap1)) (hq : W.cell? ⟨q, 0, none⟩ = some (.int .u8 t))
 (R : Ending → World → Prop) (h0 : t ≠ 0 → R (.returned (.int .u8 t)) W) (h1 : t = 0 → Calls Tryz.prog 143 cap1 W (fun e w' => ∃ u : Nat, e = .returned (.int .u8 u) ∧ R (.returned (.int .u8 u)) w')) : Calls Tryz.prog 136 #[.slice (some ⟨g, 0, none⟩) 2 2] W R := by
 have hF := ptr_first q t W hq
 have HF := Lib.hid hF
 have H0 := Lib.hid h0
 have H1 := Lib.hid h1
 clear hF h0 h1
 by_cases ht : t = 0
 ·subst ht
  have HC := Lib.hid (H1.out rfl)
  go_enter Tryz.func136, Tryz.ntmps136
  go_wp2_with fail
  refine wp_loop_rounds 3 ?_
  rw [rounds_succ]
  go_wp2_with fail
  refine (HF.out).mono ?_
  rintro e w' ⟨rfl, rfl⟩
  go_wp2_with fail
  rw [rounds_succ]
  go_wp2_with fail
  refine (HC.out).mono ?_
  rintro e w' ⟨u, rfl, hR⟩
  have HR := Lib.hid hR
  clear hR
  by_cases hu : u = 0
  ·subst hu
   go_wp2_with fail
   rw [rounds_succ]
   go_wp2_with fail
   exact HR.out
  ·have d := bne_iff_ne.2 (show (u : Int) ≠ 0 by omega)
   go_wp2_with fail
   exact HR.out
 ·have HC := Lib.hid (H0.out ht)
  have d := bne_iff_ne.2 (show (t : Int) ≠ 0 by omega)
  clear ht
  go_enter Tryz.func136, Tryz.ntmps136
  go_wp2_with fail
  refine wp_loop_rounds 3 ?_
  rw [rounds_succ]
  go_wp2_with fail
  refine (HF.out).mono ?_
  rintro e w' ⟨rfl, rfl⟩
  go_wp2_with fail
  exact HC.out
theorem ptr_second (K : MK) (k : KOk K) (S : St) (s : SOk K S) (W : World) (h : At K S W) (x y : Nat) (a : Int) (cx : W.cell? ⟨x, 0, none⟩ = some (.pointer (some ⟨K.b, 0, none⟩))) (cy : W.cell? ⟨y, 0, none⟩ = some (.int .i64 a)) :
 Calls Tryz.prog 143 #[.pointer (some ⟨x, 0, none⟩), .pointer (some ⟨y, 0, none⟩)] W (OpEnd K W (addressM K a S)) := by
 have HC := Lib.hid (fun W' (h' : At K S W') => address_any K k S s a W' h')
 have H := Lib.hid h
 clear h
 go_enter Tryz.func143, Tryz.ntmps143
 go_wp2_with fail
 refine (HC.out _ H.out).mono ?_
 rintro e w5 ⟨rfl, h5, ho5⟩
 go_wp2_with fail
 go_ret
 exact ⟨rfl, h5, ho5⟩
def ptrP (K : MK) (r : Int × Nat) (S : St) : St × Nat := if r.2 ≠ 0 then (S, r.2) else addressM K r.1 S
def ptrR (K : MK) (r : St × List Nat × Nat) : St × Nat := if r.2.2 ≠ 0 then (r.1, r.2.2) else ptrP K (blockM r.1.blocks (r.2.1.getD 0 0)) r.1
def ptrM (K : MK) (S : St) : St × Nat := ptrR K (popsM K 1 S)
theorem cell_far5 (w : World) {b i x o : Nat} (v : Value) (h : x ≠ b) : (w.setCell ⟨b, i, none⟩ v).cell? ⟨x, o, none⟩ = w.cell? ⟨x, o, none⟩ := World.cell?_of_block (w := w) (Below.heap_setCell w ⟨b, i, none⟩ v x h)
def PtrMid (w1 : World) (a : Int) (t : Nat) (u : Value) (w' : World) : Prop := ∃ p : Nat, u = .pointer (some ⟨p, 0, none⟩) ∧ Below w1.heap.size w1 w' ∧ w'.cell? ⟨p, 0, none⟩ = some (.int .i64 a) ∧ w'.cell? ⟨w1.heap.size, 0, none⟩ = some (.int .u8 (t : Nat))
set_option maxHeartbeats 4000000 in
theorem ptr_any (K : MK) (k : KOk K) (S : St) (s : SOk K S) (W : World) (h : At K S W) :
 Calls Tryz.prog 75 #[.pointer (some ⟨K.b, 0, none⟩)] W (OpEnd K W (ptrM K S)) := by
 have HX0 := Lib.hid (Bx.new W #[.pointer (some ⟨K.b, 0, none⟩)] 30)
 have HB0 := Lib.hid (alloc_below W (.cells #[.pointer (some ⟨K.b, 0, none⟩)] 30))
 have H0 := Lib.hid (h.grow HB0.out)
 have HN0 := Lib.hid (show W.heap.size ∉ K.bs from fun hm => by have := h.old _ hm; omega)
 have HS := Lib.hid s
 have HS1 := Lib.hid (popsM_ok s 1)
 have HP := Lib.hid (show ptrM K S = ptrR K (popsM K 1 S) from rfl)
 have hlen := popsM_len K 1 S
 clear h s
 go_enter Tryz.func75, Tryz.ntmps75
 go_wp2_with fail
 generalize W.alloc (.cells #[.pointer (some ⟨K.b, 0, none⟩)] 30) = w0 at *
 refine (pops_any K k S HS.out 1 (by omega) _ H0.out).mono ?_
 rintro e w1 ⟨A, c, rfl, hW, hA, ho⟩
 generalize popsM K 1 S = r at *
 obtain ⟨S1, l, t⟩ := r
 simp only at hlen hW hA HS1
 have HX1 := Lib.hid (HX0.out.only ho HN0.out)
 have HO1 := Lib.hid ((Only.of_below (bs := K.bs) HB0.out).trans ho)
 have HA1 := Lib.hid hA
 obtain ⟨b, o, rfl, hc⟩ := word_cells hW (by omega)
 obtain ⟨hc0, hr0⟩ := hc 0 (by omega)
 simp only [Nat.add_zero] at hc0
 have HC0 := Lib.hid hc0
 have HR0 := Lib.hid hr0
 have HBL := Lib.hid (show b < w1.heap.size from lt_of_cell hc0)
 have HX1L := Lib.hid HX1.out.lt
 have HV := Lib.hid (show ptrM K S = ptrR K (S1, l, t) from HP.out)
 rw [hlen]
 clear hA ho hW hc H0 HB0 hc0 hr0 HP hlen HX0
 dsimp only
 have HN1 := Lib.hid (show w1.heap.size ∉ K.bs from fun hm => by have := HA1.out.old _ hm; omega)
 by_cases ht : t = 0
 ·subst ht
  have HB2 := Lib.hid (alloc_below w1 (.cells #[.int .u8 (0 : Nat)] 5))
  have HT2 := Lib.hid (Bx.new w1 #[.int .u8 (0 : Nat)] 5)
  go_wp2_with fail
  generalize w1.alloc (.cells #[.int .u8 (0 : Nat)] 5) = w2 at *
  have H2 := Lib.hid (HA1.out.grow HB2.out)
  have HO2 := Lib.hid (HO1.out.trans (Only.of_below HB2.out))
  have HX2 := Lib.hid (HX1.out.grow HB2.out)
  have HC2 := Lib.hid ((HB2.out.cell (p := ⟨b, o, none⟩) (lt_of_cell HC0.out)).trans HC0.out)
  have HV2 := Lib.hid (show ptrM K S = ptrP K (blockM S1.blocks (l.getD 0 0)) S1 by rw [HV.out, ptrR, if_neg (by simp)])
  generalize l.getD 0 0 = y0 at *
  have HC := Lib.hid (fun w (h' : At K S1 w) => block_any K S1 y0 w h')
  generalize blockM S1.blocks y0 = bk at *
  obtain ⟨ba, bt⟩ := bk
  go_cut [5] (fun u w' => PtrMid w1 ba bt u w')
  case first =>
   have Hd := Lib.hid (H2.out.grow (drew_below w2))
   have HXd := Lib.hid (HX2.out.grow (drew_below w2))
   have HTd := Lib.hid (HT2.out.grow (drew_below w2))
   have HCd := Lib.hid (((drew_below w2).cell (p := ⟨b, o, none⟩) (lt_of_cell HC2.out)).trans HC2.out)
   have HBd := Lib.hid (HB2.out.trans ((drew_below w2).mono HB2.out.size))
   have n1 : b ≠ w1.heap.size := by have := HBL.out; omega
   have n2 : W.heap.size ≠ w1.heap.size := by have := HX1L.out; omega
   clear H2 HO2 HX2 HT2 HC2 HB2
   refine wp_region_held_drew (S := fun w => Bx W.heap.size #[.pointer (some ⟨K.b, 0, none⟩)] 30 w ∧ w.cell? ⟨b, o, none⟩ = some (.int .u16 (y0 : Nat))) (by kernel_rfl) ⟨HXd.out, HCd.out⟩ (fun hHeld => ?_)
   generalize w2.drew = wd at *
   refine wpAnyH_take (i := 0) (v := .pointer (some ⟨K.b, 0, none⟩)) rfl (by kernel_rfl) (by kernel_rfl) (by kernel_rfl) (fun _ _ _ h => h) (Or.inl ⟨by rfl, ?_⟩) ⟨HXd.out, HCd.out⟩ ?_
   ·intro w hSw; have h0 : w.cell? ⟨W.heap.size, 0, none⟩ = some (.pointer (some ⟨K.b, 0, none⟩)) := (hSw.1.cell 0).trans rfl; go_simp
   simp only [Act.put, List.setIfInBounds_toArray]
   refine wpAnyH_take (i := 1) (v := .slice (some ⟨b, o, none⟩) 1 c) rfl (by kernel_rfl) (by kernel_rfl) (by kernel_rfl) (fun _ _ _ h => h) (Or.inl ⟨by rfl, ?_⟩) ⟨HXd.out, HCd.out⟩ ?_
   ·intro w hSw; go_simp
   simp only [Act.put]
   refine wpAnyH_take (i := 2) (v := .pointer (some ⟨b, o, none⟩)) rfl (by kernel_rfl) (by kernel_rfl) (by kernel_rfl) (fun _ _ _ h => h) (Or.inl ⟨by rfl, ?_⟩) ⟨HXd.out, HCd.out⟩ ?_
   ·intro w hSw; go_simp
   simp only [Act.put]
   refine wpAnyH_take (i := 3) (v := .int .u16 (y0 : Nat)) rfl (by kernel_rfl) (by kernel_rfl) (by kernel_rfl) (fun _ _ _ h => h) (Or.inl ⟨by rfl, ?_⟩) ⟨HXd.out, HCd.out⟩ ?_
   ·intro w hSw; have h0 := hSw.2; go_simp
   simp only [Act.put]
   refine wpAnyH_ready (rs := [4, 8]) (by kernel_rfl) (by simp) ?_
   refine AllReadyH.cons rfl (fun K' hK => ?_) (AllReadyH.cons rfl (fun K' hK => ?_) AllReadyH.nil)
   ·go_simp
    refine (HC.out _ Hd.out).mono ?_
    rintro e we ⟨rfl, hb⟩
    have HBe := Lib.hid (HBd.out.trans (hb.mono HBd.out.size))
    have HXe := Lib.hid (HXd.out.grow hb)
    have HTe := Lib.hid (HTd.out.grow hb)
    have HCe := Lib.hid ((hb.cell (p := ⟨b, o, none⟩) (lt_of_cell HCd.out)).trans HCd.out)
    clear hb
    refine hK.out _ _ ⟨HXe.out, HCe.out⟩ (fun hHeld2 => ?_)
    clear hK K'
    refine wpAnyH_take (i := 5) (v := .tuple #[.int .i64 ba, .int .u8 (bt : Nat)]) rfl (by kernel_rfl) (by kernel_rfl) (by kernel_rfl) (fun _ _ _ h => h) (Or.inl ⟨by rfl, ?_⟩) ⟨HXe.out, HCe.out⟩ ?_
    ·intro w hSw; go_simp
    simp only [Act.put, List.setIfInBounds_toArray]
    refine wpAnyH_take (i := 6) (v := .int .i64 ba) rfl (by kernel_rfl) (by kernel_rfl) (by kernel_rfl) (fun _ _ _ h => h) (Or.inl ⟨by rfl, ?_⟩) ⟨HXe.out, HCe.out⟩ ?_
    ·intro w hSw; go_simp
    simp only [Act.put]
    refine wpAnyH_take (i := 7) (v := .int .u8 (bt : Nat)) rfl (by kernel_rfl) (by kernel_rfl) (by kernel_rfl) (fun _ _ _ h => h) (Or.inl ⟨by rfl, ?_⟩) ⟨HXe.out, HCe.out⟩ ?_
    ·intro w hSw; go_simp
    simp only [Act.put]
    refine wpAnyH_ready (rs := [8]) (by kernel_rfl) (by simp) ?_
    refine AllReadyH.cons rfl (fun K' hK => ?_) AllReadyH.nil
    go_simp
    have HBf := Lib.hid (HBe.out.alloc HBe.out.size (.cells #[.int .i64 0] 3))
    have HXf := Lib.hid (HXe.out.grow (alloc_below we (.cells #[.int .i64 0] 3)))
    have HTf := Lib.hid (HTe.out.grow (alloc_below we (.cells #[.int .i64 0] 3)))
    have HCf := Lib.hid (((alloc_below we (.cells #[.int .i64 0] 3)).cell (p := ⟨b, o, none⟩) (lt_of_cell HCe.out)).trans HCe.out)
    have HNf := Lib.hid (Bx.new we #[.int .i64 0] 3)
    have hp : w1.heap.size < we.heap.size := HTe.out.lt
    have HPB := Lib.hid HBe.out.size
    refine hK.out _ _ ⟨HXf.out, HCf.out⟩ (fun hHeld3 => ?_)
    clear hK K'
    generalize we.alloc (.cells #[.int .i64 0] 3) = wf at *
    generalize we.heap.size = p at *
    have f5 := HNf.out.frozen
    have c5 : wf.cell? ⟨p, 0, none⟩ = some (.int .i64 0) := (HNf.out.cell 0).trans rfl
    have n3 : b ≠ p := by have := HBL.out; omega
    have n4 : W.heap.size ≠ p := by have := HX1L.out; omega
    refine wpAnyH_ready (rs := [9]) (by kernel_rfl) (by simp) ?_
    refine AllReadyH.cons rfl (fun K' hK => ?_) AllReadyH.nil
    go_simp
    have HXg := Lib.hid (HXf.out.far (a := ⟨p, 0, none⟩) n4 (.int .i64 ba))
    have HCg := Lib.hid ((cell_far5 wf (i := 0) (o := o) (.int .i64 ba) n3).trans HCf.out)
    have HTg := Lib.hid (HTf.out.far (a := ⟨p, 0, none⟩) (by simp only; omega) (.int .i64 ba))
    have HNg := Lib.hid (HNf.out.set 0 (.int .i64 ba))
    have HBg := Lib.hid (HBf.out.setCell (p := ⟨p, 0, none⟩) (by simp only; omega) (.int .i64 ba))
    refine hK.out _ _ ⟨HXg.out, HCg.out⟩ (fun hHeld4 => ?_)
    clear hK K' f5 c5
    generalize wf.setCell ⟨p, 0, none⟩ (.int .i64 ba) = wg at *
    have f4 := HTg.out.frozen
    have c4 : wg.cell? ⟨w1.heap.size, 0, none⟩ = some (.int .u8 (0 : Nat)) := (HTg.out.cell 0).trans rfl
    refine wpAnyH_ready (rs := [10]) (by kernel_rfl) (by simp) ?_
    refine AllReadyH.cons rfl (fun K' hK => ?_) AllReadyH.nil
    go_simp
    have HXh := Lib.hid (HXg.out.far (a := ⟨w1.heap.size, 0, none⟩) n2 (.int .u8 (bt : Nat)))
    have HCh := Lib.hid ((cell_far5 wg (i := 0) (o := o) (.int .u8 (bt : Nat)) n1).trans HCg.out)
    have HTh := Lib.hid (HTg.out.set 0 (.int .u8 (bt : Nat)))
    have HNh := Lib.hid (HNg.out.far (a := ⟨w1.heap.size, 0, none⟩) (by simp only; omega) (.int .u8 (bt : Nat)))
    have HBh := Lib.hid (HBg.out.setCell (p := ⟨w1.heap.size, 0, none⟩) (Nat.le_refl _) (.int .u8 (bt : Nat)))
    refine hK.out _ _ ⟨HXh.out, HCh.out⟩ (fun hHeld5 => ?_)
    clear hK K' f4 c4
    generalize wg.setCell ⟨w1.heap.size, 0, none⟩ (.int .u8 (bt : Nat)) = wh at *
    refine wpAnyH_done (by kernel_rfl) ?_ _
    go_wp2_with fail
    go_meet
    exact ⟨p, rfl, HBh.out, (HNh.out.cell 0).trans rfl, (HTh.out.cell 0).trans rfl⟩
   ·go_simp
    have HBe := Lib.hid (HBd.out.alloc HBd.out.size (.cells #[.int .i64 0] 3))
    have HXe := Lib.hid (HXd.out.grow (alloc_below wd (.cells #[.int .i64 0] 3)))
    have HTe := Lib.hid (HTd.out.grow (alloc_below wd (.cells #[.int .i64 0] 3)))
    have He := Lib.hid (Hd.out.grow (alloc_below wd (.cells #[.int .i64 0] 3)))
    have HCe := Lib.hid (((alloc_below wd (.cells #[.int .i64 0] 3)).cell (p := ⟨b, o, none⟩) (lt_of_cell HCd.out)).trans HCd.out)
    have HNe := Lib.hid (Bx.new wd #[.int .i64 0] 3)
    have hp : w1.heap.size < wd.heap.size := HTd.out.lt
    have HPB := Lib.hid HBd.out.size
    refine hK.out _ _ ⟨HXe.out, HCe.out⟩ (fun hHeld2 => ?_)
    clear hK K'
    generalize wd.alloc (.cells #[.int .i64 0] 3) = we at *
    generalize wd.heap.size = p at *
    refine wpAnyH_ready (rs := [4]) (by kernel_rfl) (by simp) ?_
    refine AllReadyH.cons rfl (fun K' hK => ?_) AllReadyH.nil
    go_simp
    refine (HC.out _ He.out).mono ?_
    rintro e wf ⟨rfl, hb⟩
    have HBf := Lib.hid (HBe.out.trans (hb.mono HBe.out.size))
    have HXf := Lib.hid (HXe.out.grow hb)
    have HTf := Lib.hid (HTe.out.grow hb)
    have HCf := Lib.hid ((hb.cell (p := ⟨b, o, none⟩) (lt_of_cell HCe.out)).trans HCe.out)
    have HNf := Lib.hid (HNe.out.grow hb)
    clear hb
    refine hK.out _ _ ⟨HXf.out, HCf.out⟩ (fun hHeld3 => ?_)
    clear hK K'
    refine wpAnyH_take (i := 5) (v := .tuple #[.int .i64 ba, .int .u8 (bt : Nat)]) rfl (by kernel_rfl) (by kernel_rfl) (by kernel_rfl) (fun _ _ _ h => h) (Or.inl ⟨by rfl, ?_⟩) ⟨HXf.out, HCf.out⟩ ?_
    ·intro w hSw; go_simp
    simp only [Act.put, List.setIfInBounds_toArray]
    refine wpAnyH_take (i := 6) (v := .int .i64 ba) rfl (by kernel_rfl) (by kernel_rfl) (by kernel_rfl) (fun _ _ _ h => h) (Or.inl ⟨by rfl, ?_⟩) ⟨HXf.out, HCf.out⟩ ?_
    ·intro w hSw; go_simp
    simp only [Act.put]
    refine wpAnyH_take (i := 7) (v := .int .u8 (bt : Nat)) rfl (by kernel_rfl) (by kernel_rfl) (by kernel_rfl) (fun _ _ _ h => h) (Or.inl ⟨by rfl, ?_⟩) ⟨HXf.out, HCf.out⟩ ?_
    ·intro w hSw; go_simp
    simp only [Act.put]
    have f5 := HNf.out.frozen
    have c5 : wf.cell? ⟨p, 0, none⟩ = some (.int .i64 0) := (HNf.out.cell 0).trans rfl
    have n3 : b ≠ p := by have := HBL.out; omega
    have n4 : W.heap.size ≠ p := by have := HX1L.out; omega
    refine wpAnyH_ready (rs := [9]) (by kernel_rfl) (by simp) ?_
    refine AllReadyH.cons rfl (fun K' hK => ?_) AllReadyH.nil
    go_simp
    have HXg := Lib.hid (HXf.out.far (a := ⟨p, 0, none⟩) n4 (.int .i64 ba))
    have HCg := Lib.hid ((cell_far5 wf (i := 0) (o := o) (.int .i64 ba) n3).trans HCf.out)
    have HTg := Lib.hid (HTf.out.far (a := ⟨p, 0, none⟩) (by simp only; omega) (.int .i64 ba))
    have HNg := Lib.hid (HNf.out.set 0 (.int .i64 ba))
    have HBg := Lib.hid (HBf.out.setCell (p := ⟨p, 0, none⟩) (by simp only; omega) (.int .i64 ba))
    refine hK.out _ _ ⟨HXg.out, HCg.out⟩ (fun hHeld4 => ?_)
    clear hK K' f5 c5
    generalize wf.setCell ⟨p, 0, none⟩ (.int .i64 ba) = wg at *
    have f4 := HTg.out.frozen
    have c4 : wg.cell? ⟨w1.heap.size, 0, none⟩ = some (.int .u8 (0 : Nat)) := (HTg.out.cell 0).trans rfl
    refine wpAnyH_ready (rs := [10]) (by kernel_rfl) (by simp) ?_
    refine AllReadyH.cons rfl (fun K' hK => ?_) AllReadyH.nil
    go_simp
    have HXh := Lib.hid (HXg.out.far (a := ⟨w1.heap.size, 0, none⟩) n2 (.int .u8 (bt : Nat)))
    have HCh := Lib.hid ((cell_far5 wg (i := 0) (o := o) (.int .u8 (bt : Nat)) n1).trans HCg.out)
    have HTh := Lib.hid (HTg.out.set 0 (.int .u8 (bt : Nat)))
    have HNh := Lib.hid (HNg.out.far (a := ⟨w1.heap.size, 0, none⟩) (by simp only; omega) (.int .u8 (bt : Nat)))
    have HBh := Lib.hid (HBg.out.setCell (p := ⟨w1.heap.size, 0, none⟩) (Nat.le_refl _) (.int .u8 (bt : Nat)))
    refine hK.out _ _ ⟨HXh.out, HCh.out⟩ (fun hHeld5 => ?_)
    clear hK K' f4 c4
    generalize wg.setCell ⟨w1.heap.size, 0, none⟩ (.int .u8 (bt : Nat)) = wh at *
    refine wpAnyH_done (by kernel_rfl) ?_ _
    go_wp2_with fail
    go_meet
    exact ⟨p, rfl, HBh.out, (HNh.out.cell 0).trans rfl, (HTh.out.cell 0).trans rfl⟩
  case rest =>
   obtain ⟨p, rfl, hB, c5, c4⟩ := hcut
   have H3 := Lib.hid (HA1.out.grow hB)
   have HO3 := Lib.hid (HO1.out.trans (Only.of_below (bs := K.bs) hB))
   have HX3 := Lib.hid (HX1.out.grow hB)
   have C5 := Lib.hid c5
   have C4 := Lib.hid c4
   clear hB c5 c4 HA1 HO1 HX1 HC0 H2 HO2 HX2 HT2 HC2 HB2
   have HB3 := Lib.hid (alloc_below wc (.cells #[.func (.func 142) #[] #[.pointer (some ⟨w1.heap.size, 0, none⟩)], .func (.func 143) #[] #[.pointer (some ⟨W.heap.size, 0, none⟩), .pointer (some ⟨p, 0, none⟩)]] 89))
   have q2 := Bx.new wc #[.func (.func 142) #[] #[.pointer (some ⟨w1.heap.size, 0, none⟩)], .func (.func 143) #[] #[.pointer (some ⟨W.heap.size, 0, none⟩), .pointer (some ⟨p, 0, none⟩)]] 89
   have Q2 := Lib.hid q2
   clear q2
   go_wp2_with fail
   generalize wc.alloc (.cells #[.func (.func 142) #[] #[.pointer (some ⟨w1.heap.size, 0, none⟩)], .func (.func 143) #[] #[.pointer (some ⟨W.heap.size, 0, none⟩), .pointer (some ⟨p, 0, none⟩)]] 89) = w3 at *
   have H4 := Lib.hid (H3.out.grow HB3.out)
   have HO4 := Lib.hid (HO3.out.trans (Only.of_below (bs := K.bs) HB3.out))
   have HX4 := Lib.hid (HX3.out.grow HB3.out)
   have D5 := Lib.hid ((HB3.out.cell (p := ⟨p, 0, none⟩) (lt_of_cell C5.out)).trans C5.out)
   refine ptr_traps wc.heap.size w1.heap.size bt _ w3 ((Q2.out.cell 0).trans rfl) ((Q2.out.cell 1).trans rfl) ((HB3.out.cell (p := ⟨w1.heap.size, 0, none⟩) (lt_of_cell C4.out)).trans C4.out) _ ?_ ?_
   ·intro ht
    go_wp2_with fail
    go_ret
    rw [HV2.out, ptrP, if_pos (by simpa using ht)]
    exact ⟨rfl, H4.out, HO4.out⟩
   ·intro ht
    refine (ptr_second K k S1 HS1.out w3 H4.out W.heap.size p ba ((HX4.out.cell 0).trans rfl) D5.out).mono ?_
    rintro e w4 ⟨rfl, h4, ho4⟩
    refine ⟨_, rfl, ?_⟩
    go_wp2_with fail
    go_ret
    rw [HV2.out, ptrP, if_neg (by simpa using ht)]
    exact ⟨rfl, h4, HO4.out.trans ho4⟩
 ·have d := bne_iff_ne.2 (show (t : Int) ≠ 0 by omega)
  have HR := Lib.hid (show ptrM K S = (S1, t) by rw [HV.out, ptrR, if_pos (by simpa using ht)])
  have HB2 := Lib.hid (alloc_below w1 (.cells #[.int .u8 (t : Nat)] 5))
  have HT2 := Lib.hid (Bx.new w1 #[.int .u8 (t : Nat)] 5)
  have x0 : (w1.alloc (.cells #[.int .u8 (t : Nat)] 5)).cell? ⟨w1.heap.size, 0, none⟩ = some (.int .u8 (t : Nat)) := (HT2.out.cell 0).trans rfl
  go_wp2_with fail
  generalize w1.alloc (.cells #[.int .u8 (t : Nat)] 5) = w2 at *
  have H2 := Lib.hid (HA1.out.grow HB2.out)
  have HO2 := Lib.hid (HO1.out.trans (Only.of_below HB2.out))
  have HX2 := Lib.hid (HX1.out.grow HB2.out)
  have HC2 := Lib.hid ((HB2.out.cell (p := ⟨b, o, none⟩) (lt_of_cell HC0.out)).trans HC0.out)
  clear HA1 HO1 HX1 HC0
  go_ret
  rw [HR.out]
  exact ⟨rfl, H2.out, HO2.out⟩
end Go.Proofs.YtabenhpjgjjgnaaGreatDoor
/- A machine's memory. -/
namespace Go.Proofs.YtabenhpjgjjgnaaGreatDoor
open Go.RowKit
set_option maxRecDepth 100000
theorem ints_new2 (W : World) (x y : Int) : Ints (W.alloc (.cells #[.int .i64 x, .int .i64 y] 3)) (some ⟨W.heap.size, 0, none⟩) [x, y] :=
 .inr ⟨W.heap.size, 0, rfl, by simp, fun j hj => by
  have h2 : j < 2 := by simpa using hj
  rcases Nat.lt_or_ge j 1 with h | h
  ·obtain rfl : j = 0 := by omega
   exact ((Bx.new W #[.int .i64 x, .int .i64 y] 3).cell 0).trans rfl
  ·obtain rfl : j = 1 := by omega
   exact ((Bx.new W #[.int .i64 x, .int .i64 y] 3).cell 1).trans rfl⟩
def putWs (ws : Nat → Nat) (o : Nat) (l : List Nat) : Nat → Nat := fun j => if o ≤ j ∧ j < o + l.length then l.getD (j - o) 0 else ws j
theorem MemAt.cells {b n : Nat} : ∀ (l : List Nat) (o : Nat) {ws : Nat → Nat} {W : World}, MemAt b n ws W → o + l.length ≤ 65535 → (∀ x ∈ l, x < 65536) → MemAt b n (putWs ws o l) (W.setCells b o (wordVals l))
 | [], o, ws, W, h, _, _ => by
   have e : putWs ws o [] = ws := by funext j; unfold putWs; rw [if_neg (by simp only [List.length_nil]; omega)]
   rw [e]; exact h
 | x :: l, o, ws, W, h, hk, hx => by
   simp only [List.length_cons] at hk
   have h1 := MemAt.cells l (o + 1) (h.set (i := o) (x := x) (by omega) (hx x (List.mem_cons_self ..))) (by omega) (fun y hy => hx y (List.mem_cons_of_mem _ hy))
   have e : putWs (upd ws o x) (o + 1) l = putWs ws o (x :: l) := by
    funext j; unfold putWs upd
    simp only [List.length_cons]
    by_cases h1 : o + 1 ≤ j ∧ j < o + 1 + l.length
    ·rw [if_pos h1, if_pos (by omega), show j - o = (j - (o + 1)) + 1 by omega]
     rfl
    ·rw [if_neg h1]
     by_cases h2 : j = o
     ·rw [if_pos h2, if_pos (by omega), h2]
      simp
     ·rw [if_neg h2, if_neg (by omega)]
   rw [e] at h1
   exact h1
def moveM (n : Nat) (ws : Nat → Nat) (dst fr k : Int) : Nat → Nat := if thereM n k [dst, fr] then putWs ws (dst.toNat - 1) (rowM ws fr k.toNat) else ws
set_option maxHeartbeats 1000000 in
theorem move_any (bs : List Nat) (b n : Nat) (hbs : b ∈ bs) (ws : Nat → Nat) (dst fr k : Int) (W : World) (hM : MemAt b n ws W) : Calls Tryz.prog 156 #[.pointer (some ⟨b, 0, none⟩), .int .i64 dst, .int .i64 fr, .int .i64 k] W (StoreEnd bs b n (moveM n ws dst fr k) (thereM n k [dst, fr]) W) := by
 have HM0 := Lib.hid hM
 have hbl := hM.lt
 have hn := hM.n_le
 clear hM
 have HB := Lib.hid (alloc_below W (.cells #[.int .i64 dst, .int .i64 fr] 3))
 have HM := Lib.hid (HM0.out.grow HB.out)
 have HI := Lib.hid (ints_new2 W dst fr)
 cases hi : thereM n k [dst, fr]
 case false =>
  have HX := Lib.hid (show moveM n ws dst fr k = ws by unfold moveM; rw [hi]; rfl)
  have HT := Lib.hid hi
  clear hi
  go_enter Tryz.func156, Tryz.ntmps156
  go_wp2_with fail
  refine (there_eq (r := false) (l := [dst, fr]) (by simp) HM.out HI.out HT.out).mono ?_
  rintro e w' ⟨rfl, hb⟩
  have HB2 := Lib.hid (HB.out.trans (hb.mono HB.out.size))
  have HM2 := Lib.hid (HM.out.grow hb)
  clear hb
  go_wp2_with fail
  go_ret
  rw [HX.out]
  exact ⟨rfl, HM2.out, Only.of_below HB2.out, fun k hk _ => HB2.out.block k hk⟩
 case true =>
  have HX := Lib.hid (show moveM n ws dst fr k = putWs ws (dst.toNat - 1) (rowM ws fr k.toNat) by unfold moveM; rw [hi]; rfl)
  have HT := Lib.hid hi
  have h123 : 0 ≤ k ∧ 1 ≤ dst ∧ dst + k ≤ n + 1 ∧ 1 ≤ fr ∧ fr + k ≤ n + 1 := by
   unfold thereM at hi
   simp only [List.all_cons, List.all_nil, Bool.and_true, Bool.and_eq_true, hasB_iff, decide_eq_true_eq] at hi
   omega
  obtain ⟨h0, h1, h2, h3, h4⟩ := h123
  obtain ⟨kn, rfl⟩ := Int.eq_ofNat_of_zero_le h0
  rw [Int.toNat_natCast] at HX
  clear hi
  obtain ⟨α, ca, hα, hcut1⟩ := cut_words b dst kn h1 (by omega)
  obtain ⟨β, cb, hβ, hcut2⟩ := cut_words b fr kn h3 (by omega)
  have a1 : dst ≤ 65536 := by omega
  have a2 : fr ≤ 65536 := by omega
  have a3 : dst + (kn : Int) ≤ 65536 := by omega
  have a4 : fr + (kn : Int) ≤ 65536 := by omega
  go_enter Tryz.func156, Tryz.ntmps156
  go_wp2_with fail
  refine (there_eq (r := true) (l := [dst, fr]) (by simp) HM.out HI.out HT.out).mono ?_
  rintro e w' ⟨rfl, hb⟩
  have HB2 := Lib.hid (HB.out.trans (hb.mono HB.out.size))
  have HM2 := Lib.hid (HM.out.grow hb)
  clear hb HB HM HM0
  go_wp2_with fail
  refine wp_region_tail 20 (by kernel_rfl) (by kernel_rfl) ?_
  have HB3 := Lib.hid (HB2.out.trans ((drew_below w').mono HB2.out.size))
  have HM3 := Lib.hid (HM2.out.grow (drew_below w'))
  clear HB2 HM2
  generalize w'.drew = w3 at *
  have hcp : ∀ ty, (Builtin.copy_ #[40, 40] ty #[.slice (some α) kn ca, .slice (some β) kn cb]).run Tryz.prog w3 = .ok (goInt kn) (w3.setCells b (dst.toNat - 1) (wordVals (rowM ws fr kn))) := fun ty => by
   rcases Nat.eq_zero_or_pos kn with hk | hk
   ·subst hk
    exact run_copy_none w3 _ _ ty _ _ _ _ _ _ _ Tryz.underlying40 (by kernel_rfl) (by simp)
   ·rcases hα with h' | rfl
    ·omega
    ·rcases hβ with h' | rfl
     ·omega
     ·have := run_copy_cells (P := Tryz.prog) w3 40 40 ty 50 b (dst.toNat - 1) kn ca ⟨b, fr.toNat - 1, none⟩ kn cb (wordVals (rowM ws fr kn)) Tryz.underlying40 (by kernel_rfl) (by simp [wordVals_length, rowM_length])
       (fun j u hu => by
        have hj : j < kn := by
         rcases Nat.lt_or_ge j kn with h' | h'
         ·exact h'
         ·rw [List.getElem?_eq_none (by rw [wordVals_length, rowM_length]; exact h')] at hu; cases hu
        rw [WideShapes.add_plain, HM3.out.word _ (by omega)]
        simpa [wordVals, rowM, hj] using hu)
       (fun j hj => by rw [wordVals_length, rowM_length] at hj; rw [HM3.out.word _ (by omega)]; rfl)
       (fun j hj => HM3.out.frozen _)
       (by intro u hu; simp [wordVals] at hu; obtain ⟨x, _, rfl⟩ := hu; rfl)
      rw [wordVals_length, rowM_length] at this
      exact this
  have HMz := Lib.hid (HM3.out.cells (rowM ws fr kn) (dst.toNat - 1) (by rw [rowM_length]; omega) (fun x hx => by
   simp [rowM] at hx
   obtain ⟨i, _, rfl⟩ := hx
   exact HM3.out.small _))
  have HOz := Lib.hid (Only.setCells (bs := bs) hbs (wordVals (rowM ws fr kn)) (dst.toNat - 1) (Only.of_below HB3.out))
  have HFz := Lib.hid (fun j (hj : j < W.heap.size) (hne : j ≠ b) => ((setCells_kept b (wordVals (rowM ws fr kn)) (dst.toNat - 1) w3).2.2.2.2 j hne).trans (HB3.out.block j hj))
  clear hα hβ
  generalize hz : w3.setCells b (dst.toNat - 1) (wordVals (rowM ws fr kn)) = wz at *
  clear hz
  have e1 : IntKind.i64.wrap (dst - 1) = dst - 1 := IntWalk.i64_in _ (by omega)
  have e2 : IntKind.i64.wrap (dst - 1 + (kn : Int)) = dst - 1 + (kn : Int) := IntWalk.i64_in _ (by omega)
  have e3 : IntKind.i64.wrap (fr - 1) = fr - 1 := IntWalk.i64_in _ (by omega)
  have e4 : IntKind.i64.wrap (fr - 1 + (kn : Int)) = fr - 1 + (kn : Int) := IntWalk.i64_in _ (by omega)
  simp only [List.take_succ_cons, List.take_zero, List.drop_succ_cons, List.drop_zero]
  repeat still_step
  clear e1 e2 e3 e4
  refine wpStill_nil ?_
  go_wp2_with (simp only)
  go_ret
  rw [HX.out]
  exact ⟨rfl, HMz.out, HOz.out, HFz.out⟩
end Go.Proofs.YtabenhpjgjjgnaaGreatDoor
/- What all instructions of a machine do, in plain words. -/
namespace Go.Proofs.YtabenhpjgjjgnaaGreatDoor
open Go.RowKit
def caseFar (z : Bool) (x : Nat) (d : Int) : List Int → Int
 | a :: b :: c :: l => if withinM z x (w16 a) (w16 b) then c else caseFar z x d l
 | _ => d
def casesR (K : MK) (r : St × List Nat × Nat) : St × Nat := if r.2.2 ≠ 0 then (r.1, r.2.2) else goesM K (caseFar (r.1.args.getD 0 0 != 0) (r.2.1.getD 0 0) (r.1.args.getD 1 0) (r.1.args.drop 2)) r.1
def casesM (K : MK) (S : St) : St × Nat := casesR K (popsM K 1 S)
def callxR (K : MK) (r : Int × Nat) (S : St) : St × Nat :=
 if r.2 ≠ 0 then (S, r.2)
 else if (K.mods.getD r.1.toNat default).procs.length ≤ S.args.getD 1 0 then (S, 13)
 else if (procOf K r.1 (S.args.getD 1 0)).level ≠ 1 then (S, 13)
 else enterM K r.1 (S.args.getD 1 0) 0 S
def callxM (K : MK) (S : St) : St × Nat := callxR K (moduleM K S) S
def callfL (K : MK) (x : Nat) (S : St) : Nat → Nat → St × Nat
 | 0, _ => (S, 13)
 | n + 1, j =>
   if (x : Int) - K.first.getD j 0 < 0 then callfL K x S n (j + 1)
   else if (K.mods.getD j default).procs.length ≤ (x : Int) - K.first.getD j 0 then callfL K x S n (j + 1)
   else if (procOf K j ((x : Int) - K.first.getD j 0)).level ≠ 1 then (S, 13)
   else if (procOf K j ((x : Int) - K.first.getD j 0)).params ≠ S.args.getD 0 0 then (S, 13)
   else enterM K j ((x : Int) - K.first.getD j 0) 0 S
def callfR (K : MK) (r : St × List Nat × Nat) : St × Nat := if r.2.2 ≠ 0 then (r.1, r.2.2) else if r.2.1.getD 0 0 = 0 then (r.1, 5) else callfL K (r.2.1.getD 0 0) r.1 K.mods.length 0
def callfM (K : MK) (S : St) : St × Nat := callfR K (popsM K 1 S)
def leaveL (K : MK) (is : Bool) (x1 x2 x3 x4 : Nat) (S : St) : St × Nat :=
 if x1 = 0 ∧ S.fp = K.low then beginsM K S
 else if (x1 : Int) < K.low then (S, 13)
 else if S.fp ≤ x1 then (S, 13)
 else if K.mods.length ≤ x2 then (S, 13)
 else if (K.mods.getD x2 default).procs.length ≤ x4 then (S, 13)
 else if (K.mods.getD x2 default).code.length < x3 then (S, 13)
 else if S.fp < x1 + baseN (procOf K x2 x4) then (S, 13)
 else if x1 + baseN (procOf K x2 x4) + (procOf K x2 x4).depth < S.fp then (S, 13)
 else if K.high < x1 + baseN (procOf K x2 x4) + (procOf K x2 x4).depth then (S, 13)
 else if is = true ∧ S.fp = x1 + baseN (procOf K x2 x4) + (procOf K x2 x4).depth then (S, 14)
 else (backM S, 0)
def leaveM (K : MK) (is : Bool) (S : St) : St × Nat :=
 if (hereP K S).fn ≠ is then (S, 13) else leaveL K is (S.ws (S.fp.toNat - 1 + 1)) (S.ws (S.fp.toNat - 1 + 2)) (S.ws (S.fp.toNat - 1 + 3)) (S.ws (S.fp.toNat - 1 + 4)) S
def retfL (K : MK) (x : Nat) (r : St × Nat) : St × Nat := if r.2 ≠ 0 then r else pushM K x r.1
def retfR (K : MK) (r : St × List Nat × Nat) : St × Nat := if r.2.2 ≠ 0 then (r.1, r.2.2) else retfL K (r.2.1.getD 0 0) (leaveM K true r.1)
def retfM (K : MK) (S : St) : St × Nat := retfR K (popsM K 1 S)
def movesR (K : MK) (r : St × List Nat × Nat) : St × Nat :=
 if r.2.2 ≠ 0 then (r.1, r.2.2)
 else ({ r.1 with ws := moveM K.n r.1.ws (r.2.1.getD 0 0) (r.2.1.getD 1 0) (r.1.args.getD 0 0) }, if thereM K.n (r.1.args.getD 0 0) [((r.2.1.getD 0 0 : Nat) : Int), ((r.2.1.getD 1 0 : Nat) : Int)] then 0 else 15)
def movesM (K : MK) (S : St) : St × Nat := movesR K (popsM K 2 S)
def makeL (K : MK) (x : Nat) (n : Int) (S : St) : St × Nat :=
 if inM K.n x = false then (S, 15)
 else if n < 1 then (S, 12)
 else if (placeM K.high K.hn S.blocks n).2 = false then (S, 11)
 else if 65535 ≤ S.last then (S, 11)
 else ({ S with last := S.last + 1, blocks := S.blocks ++ [((S.last + 1).toNat, (placeM K.high K.hn S.blocks n).1, n)], ws := storeM K.n (clearM K.n S.ws (placeM K.high K.hn S.blocks n).1 n.toNat) x (S.last + 1).toNat }, 0)
def makeR (K : MK) (r : St × List Nat × Nat) : St × Nat := if r.2.2 ≠ 0 then (r.1, r.2.2) else makeL K (r.2.1.getD 0 0) (r.1.args.getD 0 0) r.1
def makeM (K : MK) (S : St) : St × Nat := makeR K (popsM K 1 S)
def freeL (K : MK) (x : Nat) (S : St) : St × Nat :=
 if inM K.n x = false then (S, 15)
 else if (blockM S.blocks (loadM K.n S.ws x)).2 ≠ 0 then (S, (blockM S.blocks (loadM K.n S.ws x)).2)
 else ({ S with blocks := delB S.blocks (loadM K.n S.ws x), ws := storeM K.n S.ws x 0 }, 0)
def freeR (K : MK) (r : St × List Nat × Nat) : St × Nat := if r.2.2 ≠ 0 then (r.1, r.2.2) else freeL K (r.2.1.getD 0 0) r.1
def freeM (K : MK) (S : St) : St × Nat := freeR K (popsM K 1 S)
def readM (K : MK) (S : St) : St × Nat := pushM K (S.inp.headD 0).toNat { S with inp := S.inp.tail }
def putcR (K : MK) (r : St × List Nat × Nat) : St × Nat := if r.2.2 ≠ 0 then (r.1, r.2.2) else writesM K [UInt8.ofNat (r.2.1.getD 0 0)] r.1
def putcM (K : MK) (S : St) : St × Nat := putcR K (popsM K 1 S)
def wrsL (n : Nat) (ws : Nat → Nat) : Nat → Int → Option (List UInt8)
 | 0, _ => some []
 | j + 1, a => if inM n a = false then none else if (loadM n ws a) % 256 = 0 then some [] else (wrsL n ws j (a + 1)).map (UInt8.ofNat (loadM n ws a) :: ·)
def wrsE (K : MK) (S : St) : Option (List UInt8) → St × Nat
 | none => (S, 15)
 | some s => writesM K s S
def wrsR (K : MK) (r : St × List Nat × Nat) : St × Nat := if r.2.2 ≠ 0 then (r.1, r.2.2) else wrsE K r.1 (wrsL K.n r.1.ws (r.2.1.getD 1 0 + 1) (r.2.1.getD 0 0))
def wrsM (K : MK) (S : St) : St × Nat := wrsR K (popsM K 2 S)
def doA (K : MK) (op : Nat) (S : St) : St × Nat :=
 if takesN op ≠ 0 then opM K op (takesN op) S
 else if op = 40 then litM K S
 else if op = 41 then globalM K (loadsM K) S
 else if op = 42 then globalM K (storesM K) S
 else if op = 43 then globalM K (addressM K) S
 else if op = 44 then localM K (loadsM K) S
 else if op = 45 then localM K (storesM K) S
 else if op = 46 then localM K (addressM K) S
 else if op = 47 then liM K S
 else if op = 48 then siM K S
 else if op = 49 then addM K S
 else if op = 50 then ptrM K S
 else if op = 51 then ixM K S
 else if op = 52 then ixopM K S
 else if op = 53 then rangesM K S
 else if op = 54 then convM K S
 else if op = 55 then jmpM K S
 else if op = 56 then jumpsM K true S
 else if op = 57 then jumpsM K false S
 else if op = 58 then keepsM K true S
 else if op = 59 then keepsM K false S
 else if op = 60 then casesM K S
 else if op = 61 then marksM K S
 else if op = 62 then callM K S
 else if op = 63 then callxM K S
 else if op = 64 then callfM K S
 else if op = 65 then leaveM K false S
 else if op = 66 then retfM K S
 else if op = 67 then numberM K S
 else if op = 68 then turnsM K 1 [0, 0] S
 else if op = 69 then turnsM K 1 [] S
 else if op = 70 then turnsM K 2 [0, 1] S
 else if op = 81 then turnsM K 2 [1, 0, 1] S
 else if op = 71 then movesM K S
 else if op = 72 then makeM K S
 else if op = 73 then freeM K S
 else if op = 74 then readM K S
 else if op = 75 then putcM K S
 else if op = 76 then wrsM K S
 else if op = 77 then textsM K true S
 else if op = 78 then textsM K false S
 else if op = 79 then writesM K [10] S
 else if op = 80 then trapM S
 else (S, 12)
def stepR (K : MK) (r : K16.InsL × Int × Int) (S : St) : St × Nat := if r.2.2 ≠ 0 then (S, 12) else doA K r.1.1 { S with next := r.2.1, args := r.1.2 }
def stepM (K : MK) (S : St) : St × Nat := stepR K (K16.decodeL (modOf K S).code S.at_) S
def tickS (S : St) : St := { S with steps := S.steps + 1 }
def goS (S : St) : St := { S with at_ := S.next }
def runR (r : St × Nat) (on : St → St) : St := if r.2 ≠ 0 then { r.1 with kind := 2, trap := r.2 } else on (goS r.1)
def runM (K : MK) : Nat → St → St
 | 0, S => S
 | n + 1, S => if S.kind ≠ 0 then S else runR (stepM K (tickS S)) (runM K n)
end Go.Proofs.YtabenhpjgjjgnaaGreatDoor
/- A machine's move. -/
namespace Go.Proofs.YtabenhpjgjjgnaaGreatDoor
open Go.RowKit
set_option maxRecDepth 100000
attribute [local go_sem ↓] Go.wp_at_zero Go.wp_at_succ
def moveP (K : MK) (x0 x1 : Nat) (S : St) : St × Nat := ({ S with ws := moveM K.n S.ws x0 x1 (S.args.getD 0 0) }, if thereM K.n (S.args.getD 0 0) [(x0 : Int), (x1 : Int)] then 0 else 15)
set_option maxHeartbeats 2000000 in
theorem move_op (K : MK) (k : KOk K) (S : St) (s : SOk K S) (ha : 0 < S.args.length) (_hq0 : -1000000 ≤ S.args.getD 0 0) (_hq1 : S.args.getD 0 0 ≤ 1000000) (W : World) (h : At K S W) : Calls Tryz.prog 92 #[.pointer (some ⟨K.b, 0, none⟩)] W (OpEnd K W (movesM K S)) := by
 have HK := Lib.hid k
 have HP := Lib.hid (show movesM K S = movesR K (popsM K 2 S) from rfl)
 have hlen := popsM_len K 2 S
 have harg := popsM_args K 2 S
 have HC := Lib.hid (pops_any K k S s 2 (by omega) W h)
 clear h k s
 go_enter Tryz.func92, Tryz.ntmps92
 go_wp2_with fail
 refine (HC.out).mono ?_
 rintro e w1 ⟨A, c, rfl, hW, hA, ho⟩
 generalize popsM K 2 S = r at *
 obtain ⟨S1, l, t⟩ := r
 simp only at hlen hW hA harg
 rw [← harg] at ha _hq0 _hq1
 have HA := Lib.hid hA
 have HO := Lib.hid ho
 obtain ⟨b, o, rfl, hc⟩ := word_cells hW (by omega)
 clear hA ho hW HC harg
 rw [hlen]
 dsimp only
 by_cases ht : t = 0
 ·subst ht
  have HX := Lib.hid (show movesM K S = moveP K (l.getD 0 0) (l.getD 1 0) S1 by rw [HP.out, movesR, if_neg (by simp)]; rfl)
  obtain ⟨hc0, hr0⟩ := hc 0 (by omega)
  obtain ⟨hc1, hr1⟩ := hc 1 (by omega)
  simp only [Nat.add_zero] at hc0
  have HC0 := Lib.hid hc0
  have HC1 := Lib.hid hc1
  have HAL := Lib.hid ha
  generalize l.getD 0 0 = x0 at *
  generalize l.getD 1 0 = x1 at *
  have HR1 := Lib.hid hr1
  clear hc hlen HP hc0 hc1 ha
  go_wp2_with fail
  refine wp_region_tail 18 (by kernel_rfl) (by kernel_rfl) ?_
  have hlt := lt_of_cell HC0.out
  have hcd0 := ((drew_below w1).cell (p := ⟨b, o, none⟩) hlt).trans HC0.out
  have hcd1 := ((drew_below w1).cell (p := ⟨b, o + 1, none⟩) hlt).trans HC1.out
  have H2 := Lib.hid (HA.out.grow (drew_below w1))
  have HO2 := Lib.hid (HO.out.trans (Only.of_below (drew_below w1)))
  clear HA HO HC0 HC1 hlt
  generalize w1.drew = w2 at *
  have m2 := H2.out.c3
  have hmlt := H2.out.lt
  obtain ⟨ab, ao, ac, c16, hab, a0c⟩ := H2.out.arg (j := 0) HAL.out
  simp only [Nat.add_zero] at a0c
  have hal : 0 < S1.args.length := HAL.out
  have HXq := Lib.hid (show moveP K x0 x1 S1 = ({ S1 with ws := moveM K.n S1.ws x0 x1 (S1.args.getD 0 0) }, if thereM K.n (S1.args.getD 0 0) [(x0 : Int), (x1 : Int)] then 0 else 15) from rfl)
  generalize S1.args.getD 0 0 = q at *
  simp only [List.take_succ_cons, List.take_zero, List.drop_succ_cons, List.drop_zero]
  repeat still_step
  refine wpStill_nil ?_
  go_wp2_with fail
  refine (move_any K.bs K.bm K.n HK.out.hm S1.ws x0 x1 q w2 H2.out.mem).mono ?_
  rintro e w3 ⟨rfl, hm3, ho3, hf3⟩
  have H3 := Lib.hid (H2.out.setMem HK.out hm3 ho3 hf3)
  have HO3 := Lib.hid (HO2.out.trans ho3)
  clear hm3 ho3 hf3 H2 HO2 m2 hcd0 hcd1 c16 hab a0c hal
  cases hi : thereM K.n q [(x0 : Int), (x1 : Int)]
  ·have HR := Lib.hid (show movesM K S = ({ S1 with ws := moveM K.n S1.ws x0 x1 q }, 15) by rw [HX.out, HXq.out, hi]; rfl)
   go_wp2_with fail
   go_ret
   rw [HR.out]
   exact ⟨rfl, H3.out, HO3.out⟩
  ·have HR := Lib.hid (show movesM K S = ({ S1 with ws := moveM K.n S1.ws x0 x1 q }, 0) by rw [HX.out, HXq.out, hi]; rfl)
   go_wp2_with fail
   go_ret
   rw [HR.out]
   exact ⟨rfl, H3.out, HO3.out⟩
 ·have d := bne_iff_ne.2 (show (t : Int) ≠ 0 by omega)
  have HR := Lib.hid (show movesM K S = (S1, t) by rw [HP.out, movesR, if_pos (by simpa using ht)])
  go_wp2_with fail
  go_ret
  rw [HR.out]
  exact ⟨rfl, HA.out, HO.out⟩
end Go.Proofs.YtabenhpjgjjgnaaGreatDoor
