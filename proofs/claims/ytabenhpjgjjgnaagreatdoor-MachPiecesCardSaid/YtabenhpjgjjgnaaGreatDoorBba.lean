/- A machine's write. A heap's blocks turn. A machine's free. A machine writes a text that lies in memory. A machine ends a line. A heap's blocks, gone through. Condition: what lies in memory can lie there; what each theorem says. -/
import Derived.Test.YtabenhpjgjjgnaaGreatDoorBay
import Derived.Test.YtabenhpjgjjgnaaGreatDoorBaa
import Derived.Test.YtabenhpjgjjgnaaGreatDoorBag
import Derived.Test.YtabenhpjgjjgnaaGreatDoorBax
import Derived.Deep.RegionHeld3
import Derived.LoopN
import Derived.Deep.DeepCutAuto
import Derived.RangeFuncNested
import Derived.RangeFuncBound
import Derived.RangeFuncLeaves
import Derived.Sort.MapsRangeIn
import Derived.Shelf.Abstract
import Derived.Shelf.AbstractIn
import Derived.Shelf.RegionOpen
import Derived.WalkKit
import Derived.OwnWalkIn
import Derived.TacticsInMore
import Derived.RegionIn
import Derived.LoopNIn
import Derived.LoopIn
/- A machine's write. -/
namespace Go.Proofs.YtabenhpjgjjgnaaGreatDoor
open Go.RowKit
set_option maxRecDepth 100000
attribute [local go_sem ↓] Go.wp_at_zero Go.wp_at_succ
theorem write_first (q t : Nat) (W : World) (hq : W.cell? ⟨q, 0, none⟩ = some (.int .u8 t)) : Calls Tryz.prog 160 #[.pointer (some ⟨q, 0, none⟩)] W (fun e w' => e = .returned (.int .u8 t) ∧ W = w') := by
 go_enter Tryz.func160, Tryz.ntmps160
 go_wp2_with fail
 go_ret
 exact ⟨rfl, rfl⟩
theorem write_traps (g q t : Nat) (cap1 : Array Value) (W : World) (hg0 : W.cell? ⟨g, 0, none⟩ = some (.func (.func 160) #[] #[.pointer (some ⟨q, 0, none⟩)])) (hg1 : W.cell? ⟨g, 1, none⟩ = some (.func (.func 161) #[] cap1)) (hq : W.cell? ⟨q, 0, none⟩ = some (.int .u8 t))
 (R : Ending → World → Prop) (h0 : t ≠ 0 → R (.returned (.int .u8 t)) W) (h1 : t = 0 → Calls Tryz.prog 161 cap1 W (fun e w' => ∃ u : Nat, e = .returned (.int .u8 u) ∧ R (.returned (.int .u8 u)) w')) : Calls Tryz.prog 136 #[.slice (some ⟨g, 0, none⟩) 2 2] W R := by
 have hF := write_first q t W hq
 have HF := Lib.hid hF
 have H0 := Lib.hid h0
 have H1 := Lib.hid h1
 clear hF h0 h1
 by_cases ht : t = 0
 ·subst ht
  have HC := Lib.hid (H1.out rfl)
  go_enter Tryz.func136, Tryz.ntmps136
  go_wp2_with fail
  refine wp_loop_rounds 3 ?_
  rw [rounds_succ]
  go_wp2_with fail
  refine (HF.out).mono ?_
  rintro e w' ⟨rfl, rfl⟩
  go_wp2_with fail
  rw [rounds_succ]
  go_wp2_with fail
  refine (HC.out).mono ?_
  rintro e w' ⟨u, rfl, hR⟩
  have HR := Lib.hid hR
  clear hR
  by_cases hu : u = 0
  ·subst hu
   go_wp2_with fail
   rw [rounds_succ]
   go_wp2_with fail
   exact HR.out
  ·have d := bne_iff_ne.2 (show (u : Int) ≠ 0 by omega)
   go_wp2_with fail
   exact HR.out
 ·have HC := Lib.hid (H0.out ht)
  have d := bne_iff_ne.2 (show (t : Int) ≠ 0 by omega)
  clear ht
  go_enter Tryz.func136, Tryz.ntmps136
  go_wp2_with fail
  refine wp_loop_rounds 3 ?_
  rw [rounds_succ]
  go_wp2_with fail
  refine (HF.out).mono ?_
  rintro e w' ⟨rfl, rfl⟩
  go_wp2_with fail
  exact HC.out
theorem put_region (x0 : Nat) (_hx : x0 < 65536) : ((UInt8.ofNat x0).toNat : Int) = IntKind.u8.wrap (x0 : Int) := by
 rw [IntKind.wrap_u8]
 simp [UInt8.toNat_ofNat']
theorem write_second (K : MK) (k : KOk K) (S : St) (_s : SOk K S) (hm0 : 0 ≤ K.most) (hm1 : K.most ≤ 1000000) (ho : S.out.length ≤ 1000000) (W : World) (h : At K S W) (x y b o c x0 : Nat) (hr : x0 < 65536) (hxn : x ∉ K.bs) (cx : W.cell? ⟨x, 0, none⟩ = some (.pointer (some ⟨K.b, 0, none⟩)))
 (cy : W.cell? ⟨y, 0, none⟩ = some (.slice (some ⟨b, o, none⟩) 1 c)) (c0 : W.cell? ⟨b, o, none⟩ = some (.int .u16 (x0 : Nat))) :
 Calls Tryz.prog 161 #[.pointer (some ⟨x, 0, none⟩), .pointer (some ⟨y, 0, none⟩)] W (OpEnd K W (writesM K [UInt8.ofNat x0] S)) := by
 have H := Lib.hid (h.grow (drew_below W))
 have HO := Lib.hid (Only.of_below (bs := K.bs) (drew_below W))
 have HC := Lib.hid (fun W' (h' : At K S W') => writes_any K k S [UInt8.ofNat x0] (by simp) hm0 hm1 ho W' h')
 have hw := put_region x0 hr
 have dx := ((drew_below W).cell (p := ⟨x, 0, none⟩) (lt_of_cell cx)).trans cx
 have dy := ((drew_below W).cell (p := ⟨y, 0, none⟩) (lt_of_cell cy)).trans cy
 have d0 := ((drew_below W).cell (p := ⟨b, o, none⟩) (lt_of_cell c0)).trans c0
 have hlx := lt_of_cell dx
 simp only at hlx
 clear h cx cy c0
 go_enter Tryz.func161, Tryz.ntmps161
 go_wp2_with fail
 refine wp_region_held_drew (S := fun w => w.cell? ⟨x, 0, none⟩ = some (.pointer (some ⟨K.b, 0, none⟩))) (by kernel_rfl) dx (fun hHeld => ?_)
 generalize W.drew = wd at *
 clear hHeld
 refine wpAnyH_take (i := 0) (v := .pointer (some ⟨K.b, 0, none⟩)) rfl (by kernel_rfl) (by kernel_rfl) (by kernel_rfl) (fun _ _ _ h => h) (Or.inl ⟨by rfl, ?_⟩) dx ?_
 ·intro w hSw; have h0 := hSw; go_simp
 simp only [Act.put, List.setIfInBounds_toArray]
 refine wpAnyH_ready (rs := [1]) (by kernel_rfl) (by simp) ?_
 refine AllReadyH.cons rfl (fun K' hK => ?_) AllReadyH.nil
 go_simp
 refine hK.out _ _ dx (fun _ => ?_)
 clear hK K'
 refine wpAnyH_ready (rs := [2]) (by kernel_rfl) (by simp) ?_
 refine AllReadyH.cons rfl (fun K' hK => ?_) AllReadyH.nil
 go_simp
 refine hK.out _ _ dx (fun _ => ?_)
 clear hK K'
 refine wpAnyH_ready (rs := [3]) (by kernel_rfl) (by simp) ?_
 refine AllReadyH.cons rfl (fun K' hK => ?_) AllReadyH.nil
 go_simp
 refine hK.out _ _ dx (fun _ => ?_)
 clear hK K'
 refine wpAnyH_ready (rs := [4]) (by kernel_rfl) (by simp) ?_
 refine AllReadyH.cons rfl (fun K' hK => ?_) AllReadyH.nil
 go_simp
 refine hK.out _ _ dx (fun _ => ?_)
 clear hK K'
 refine wpAnyH_ready (rs := [5]) (by kernel_rfl) (by simp) ?_
 refine AllReadyH.cons rfl (fun K' hK => ?_) AllReadyH.nil
 go_simp
 rw [← hw]
 have hd := (alloc_below wd (.cells #[.int .u8 ((UInt8.ofNat x0).toNat : Int)] 5))
 have hown : (wd.alloc (.cells #[.int .u8 ((UInt8.ofNat x0).toNat : Int)] 5)).ownsRow 0 5 1 (.slice (some ⟨wd.heap.size, 0, none⟩) 1 1) 1 (byteVals [UInt8.ofNat x0]).toList :=
  ⟨by simp [byteVals], .inr ⟨wd.heap.size, 1, #[.int .u8 ((UInt8.ofNat x0).toNat : Int)], rfl, Nat.zero_le _, heap_alloc_new _ _, Nat.le_refl _, by decide, rfl, rfl⟩⟩
 have hcv := conv_own hown
 have dx2 := (hd.cell (p := ⟨x, 0, none⟩) hlx).trans dx
 have H2 := Lib.hid (H.out.grow hd)
 have HO2 := Lib.hid (HO.out.trans (Only.of_below (bs := K.bs) hd))
 refine hK.out _ _ dx2 (fun _ => ?_)
 clear hK K' hd hown H HO dx hw dy d0
 generalize wd.alloc (.cells #[.int .u8 ((UInt8.ofNat x0).toNat : Int)] 5) = w2 at *
 refine wpAnyH_ready (rs := [6]) (by kernel_rfl) (by simp) ?_
 refine AllReadyH.cons rfl (fun K' hK => ?_) AllReadyH.nil
 go_simp
 refine hK.out _ _ dx2 (fun _ => ?_)
 clear hK K' hcv
 refine wpAnyH_ready (rs := [7]) (by kernel_rfl) (by simp) ?_
 refine AllReadyH.cons rfl (fun K' hK => ?_) AllReadyH.nil
 go_simp
 refine (HC.out _ H2.out).mono ?_
 generalize writesM K [UInt8.ofNat x0] S = r at *
 obtain ⟨S2, t⟩ := r
 rintro e w3 ⟨rfl, h3, ho3⟩
 refine hK.out _ _ (ho3.cell dx2 hxn) (fun _ => ?_)
 clear hK K'
 refine wpAnyH_ready (rs := [8]) (by kernel_rfl) (by simp) ?_
 refine AllReadyH.cons rfl (fun K' hK => ?_) AllReadyH.nil
 go_simp
 refine hK.out _ _ (ho3.cell dx2 hxn) (fun _ => ?_)
 clear hK K'
 refine wpAnyH_done (by kernel_rfl) ?_ _
 try simp only [List.getElem_toArray, List.getElem_cons_succ, List.getElem_cons_zero, List.setIfInBounds_toArray, List.set_cons_zero, List.set_cons_succ]
 go_wp2_with fail
 go_ret
 exact ⟨rfl, h3, HO2.out.trans ho3⟩
set_option maxHeartbeats 2000000 in
theorem putc_any (K : MK) (k : KOk K) (S : St) (s : SOk K S) (hm0 : 0 ≤ K.most) (hm1 : K.most ≤ 1000000) (hou : S.out.length ≤ 1000000) (W : World) (h : At K S W) :
 Calls Tryz.prog 96 #[.pointer (some ⟨K.b, 0, none⟩)] W (OpEnd K W (putcM K S)) := by
 have HX0 := Lib.hid (Bx.new W #[.pointer (some ⟨K.b, 0, none⟩)] 30)
 have HB0 := Lib.hid (alloc_below W (.cells #[.pointer (some ⟨K.b, 0, none⟩)] 30))
 have H0 := Lib.hid (h.grow HB0.out)
 have HN0 := Lib.hid (show W.heap.size ∉ K.bs from fun hm => by have := h.old _ hm; omega)
 have HS := Lib.hid s
 have HS1 := Lib.hid (popsM_ok s 1)
 have HP := Lib.hid (show putcM K S = putcR K (popsM K 1 S) from rfl)
 have hlen := popsM_len K 1 S
 have harg : (popsM K 1 S).1.out = S.out := by unfold popsM; split <;> rfl
 clear h s
 go_enter Tryz.func96, Tryz.ntmps96
 go_wp2_with fail
 generalize W.alloc (.cells #[.pointer (some ⟨K.b, 0, none⟩)] 30) = w0 at *
 refine (pops_any K k S HS.out 1 (by omega) _ H0.out).mono ?_
 rintro e w1 ⟨A, c, rfl, hW, hA, ho⟩
 generalize popsM K 1 S = r at *
 obtain ⟨S1, l, t⟩ := r
 simp only at hlen hW hA harg HS1
 rw [← harg] at hou
 have HX1 := Lib.hid (HX0.out.only ho HN0.out)
 have HO1 := Lib.hid ((Only.of_below (bs := K.bs) HB0.out).trans ho)
 have HA1 := Lib.hid hA
 obtain ⟨b, o, rfl, hc⟩ := word_cells hW (by omega)
 obtain ⟨hc0, hr0⟩ := hc 0 (by omega)
 simp only [Nat.add_zero] at hc0
 have HC0 := Lib.hid hc0
 have HR0 := Lib.hid hr0
 have HV := Lib.hid (show putcM K S = putcR K (S1, l, t) from HP.out)
 have HQ := Lib.hid hou
 rw [hlen]
 clear hA ho hW hc H0 HB0 hc0 hr0 HP hlen harg hou
 dsimp only
 have e1 : (w1.alloc (.cells #[.slice (some ⟨b, o, none⟩) 1 c] 40)).heap.size = w1.heap.size + 1 := by simp
 have e2 : ((w1.alloc (.cells #[.slice (some ⟨b, o, none⟩) 1 c] 40)).alloc (.cells #[.int .u8 (t : Nat)] 5)).heap.size = w1.heap.size + 1 + 1 := by simp
 have q0 := Bx.grow (Bx.new w1 #[.slice (some ⟨b, o, none⟩) 1 c] 40) (alloc_below _ (.cells #[.int .u8 (t : Nat)] 5))
 have q1 := Bx.new (w1.alloc (.cells #[.slice (some ⟨b, o, none⟩) 1 c] 40)) #[.int .u8 (t : Nat)] 5
 rw [e1] at q1
 have HB2 := Lib.hid (((Below.refl _ _).alloc (Nat.le_refl _) _).alloc (by rw [e1]; omega) _ : Below w1.heap.size w1 ((w1.alloc (.cells #[.slice (some ⟨b, o, none⟩) 1 c] 40)).alloc (.cells #[.int .u8 (t : Nat)] 5)))
 have Q0 := Lib.hid q0
 have Q1 := Lib.hid q1
 have HE2 := Lib.hid e2
 clear q0 q1 e1 e2
 go_wp2_with fail
 generalize hw2 : ((w1.alloc (.cells #[.slice (some ⟨b, o, none⟩) 1 c] 40)).alloc (.cells #[.int .u8 (t : Nat)] 5)) = w2 at *
 clear hw2
 have HB3 := Lib.hid (alloc_below w2 (.cells #[.func (.func 160) #[] #[.pointer (some ⟨w1.heap.size + 1, 0, none⟩)], .func (.func 161) #[] #[.pointer (some ⟨W.heap.size, 0, none⟩), .pointer (some ⟨w1.heap.size, 0, none⟩)]] 89))
 have q2 := Bx.new w2 #[.func (.func 160) #[] #[.pointer (some ⟨w1.heap.size + 1, 0, none⟩)], .func (.func 161) #[] #[.pointer (some ⟨W.heap.size, 0, none⟩), .pointer (some ⟨w1.heap.size, 0, none⟩)]] 89
 rw [HE2.out] at q2
 generalize w2.alloc (.cells #[.func (.func 160) #[] #[.pointer (some ⟨w1.heap.size + 1, 0, none⟩)], .func (.func 161) #[] #[.pointer (some ⟨W.heap.size, 0, none⟩), .pointer (some ⟨w1.heap.size, 0, none⟩)]] 89) = w3 at *
 have HB := Lib.hid (HB2.out.trans (HB3.out.mono HB2.out.size))
 have h3 := Lib.hid (HA1.out.grow HB.out)
 have ho3 := Lib.hid (HO1.out.trans (Only.of_below (bs := K.bs) HB.out))
 have HX3 := Lib.hid (HX1.out.grow HB.out)
 have Q03 := Lib.hid (Q0.out.grow HB3.out)
 have HC3 := Lib.hid ((HB.out.cell (lt_of_cell HC0.out)).trans HC0.out)
 refine write_traps (w1.heap.size + 1 + 1) (w1.heap.size + 1) t _ w3 ((q2.cell 0).trans rfl) ((q2.cell 1).trans rfl) (((Q1.out.grow HB3.out).cell 0).trans rfl) _ ?_ ?_
 ·intro ht
  go_wp2_with fail
  go_ret
  rw [HV.out, putcR, if_pos (by simpa using ht)]
  exact ⟨rfl, h3.out, ho3.out⟩
 ·intro ht
  refine (write_second K k S1 HS1.out hm0 hm1 HQ.out w3 h3.out W.heap.size w1.heap.size b o c (l.getD 0 0) HR0.out HN0.out ((HX3.out.cell 0).trans rfl) ((Q03.out.cell 0).trans rfl) HC3.out).mono ?_
  rintro e w4 ⟨rfl, h4, ho4⟩
  refine ⟨_, rfl, ?_⟩
  go_wp2_with fail
  go_ret
  rw [HV.out, putcR, if_neg (by simpa using ht)]
  exact ⟨rfl, h4, ho3.out.trans ho4⟩
end Go.Proofs.YtabenhpjgjjgnaaGreatDoor
/- A heap's blocks turn. -/
namespace Go.Proofs.YtabenhpjgjjgnaaGreatDoor
open Go.RowKit
set_option maxRecDepth 100000
attribute [local go_sem ↓] Go.wp_at_zero Go.wp_at_succ
theorem mask_putObj {bs : List Nat} {W : World} {q : Nat} {o : Obj} (h : q ∈ bs) : mask bs (putObj W q o) = mask bs W := by
 have e : (putObj W q o).heap.mapIdx (fun i o => if i ∈ bs then dead else o) = W.heap.mapIdx (fun i o => if i ∈ bs then dead else o) := by
  apply Array.ext_getElem?
  intro k
  rw [Array.getElem?_mapIdx, Array.getElem?_mapIdx]
  by_cases hk : k = q
  ·subst hk
   by_cases hl : k < W.heap.size
   ·rw [Array.getElem?_eq_getElem (by rw [putObj_size]; exact hl), Array.getElem?_eq_getElem hl]
    simp [h]
   ·rw [Array.getElem?_eq_none (by rw [putObj_size]; omega), Array.getElem?_eq_none (by omega)]
  ·rw [putObj_other hk]
 unfold mask
 rw [e]
 rfl
theorem Only.putObj {bs : List Nat} {W W' : World} {q : Nat} (h : Only bs W W') (ha : q ∈ bs) (o : Obj) : Only bs W (putObj W' q o) := by
 unfold Only
 rw [mask_putObj ha]
 exact h
theorem Only.cell' {bs : List Nat} {W W' : World} (h : Only bs W W') {x o : Nat} {v : Value} (hc : W.cell? ⟨x, o, none⟩ = some v) (hx : x ∉ bs) : W'.cell? ⟨x, o, none⟩ = some v :=
 (World.cell?_of_block (w := W) (h.block (lt_of_cell hc) hx)).trans hc
theorem At.setHeap {K : MK} {S : St} {W W' : World} {x : Int} {l : List (Nat × Int × Int)} (h : At K S W) (k : KOk K) (ho : Only K.bs W W') (hf : ∀ j, j < W.heap.size → j ≠ K.bh → j ≠ K.bq → W'.heap[j]? = W.heap[j]?) (hh : HpAt K { S with last := x, blocks := l } W') : At K { S with last := x, blocks := l } W' := by
 obtain ⟨A, c, h1, h2⟩ := h.box
 obtain ⟨re, im, hre, h3⟩ := h.term
 exact h.only ho ⟨A, c, (hf _ h1.lt k.bh k.bq).trans h1, ⟨h2.1.later ho (by rw [mask_size]; exact Nat.le_refl _), h2.2⟩⟩ ⟨re, im, hre, (hf _ h3.lt k.th k.tq).trans h3⟩ (h.mem.later (hf _ h.mem.lt k.mh k.mq)) hh
def HFreeEnd (K : MK) (W : World) (r : St × Int) (e : Ending) (w' : World) : Prop := e = .returned (.int .i64 r.2) ∧ At K r.1 w' ∧ Only K.bs W w'
theorem hfree_any (K : MK) (k : KOk K) (S : St) (x : Nat) (W : World) (h : At K S W) : Calls Tryz.prog 158 #[.pointer (some ⟨K.bh, 0, none⟩), .int .u16 (x : Nat)] W (HFreeEnd K W (if (atM S.blocks x).2.2 = 0 then { S with blocks := delB S.blocks x } else S, (atM S.blocks x).2.2)) := by
 have HC := Lib.hid (hat_any K S x W h.hp)
 have H := Lib.hid h
 have HK := Lib.hid k
 clear h k
 cases hf : findB S.blocks x with
 | none =>
   have ha : atM S.blocks x = (0, 0, 3) := by unfold atM; rw [hf]
   rw [ha] at HC ⊢
   rw [if_neg (by decide)]
   go_enter Tryz.func158, Tryz.ntmps158
   go_wp2_with fail
   refine (HC.out).mono ?_
   rintro e w1 ⟨rfl, hb⟩
   have H1 := Lib.hid (H.out.grow hb)
   have HO1 := Lib.hid (Only.of_below (bs := K.bs) hb)
   clear hb
   go_wp2_with fail
   go_ret
   exact ⟨rfl, H1.out, HO1.out⟩
 | some r =>
   obtain ⟨a, n⟩ := r
   have ha : atM S.blocks x = (a, n, 0) := by unfold atM; rw [hf]
   rw [ha] at HC ⊢
   rw [if_pos rfl]
   go_enter Tryz.func158, Tryz.ntmps158
   go_wp2_with fail
   refine (HC.out).mono ?_
   rintro e w1 ⟨rfl, hb⟩
   have H1 := Lib.hid (H.out.grow hb)
   have HO1 := Lib.hid (Only.of_below (bs := K.bs) hb)
   clear hb
   obtain ⟨_, _, _, c3⟩ := H1.out.hp.c
   have hlt := H1.out.hp.box.lt
   obtain ⟨o, hd, hB⟩ := bl_del (P := Tryz.prog) (mty := 122) Tryz.underlying122 Tryz.underlying50 H1.out.hp.map x hf
   have H2 := Lib.hid (H1.out.setHeap (x := S.last) (l := delB S.blocks x) HK.out ((Only.refl _ _).putObj HK.out.hq o) (fun j _ _ hj => putObj_other hj) ⟨(putObj_other HK.out.hqne).trans H1.out.hp.box, hB⟩)
   have HO2 := Lib.hid (HO1.out.putObj HK.out.hq o)
   clear hf hB
   go_wp2_with fail
   go_ret
   exact ⟨rfl, H2.out, HO2.out⟩
end Go.Proofs.YtabenhpjgjjgnaaGreatDoor
/- A machine's free. -/
namespace Go.Proofs.YtabenhpjgjjgnaaGreatDoor
open Go.RowKit
set_option maxRecDepth 100000
attribute [local go_sem ↓] Go.wp_at_zero Go.wp_at_succ
theorem load_eq (b n : Nat) (ws : Nat → Nat) (at_ : Int) (W : World) (hM : MemAt b n ws W) : Calls Tryz.prog 40 #[.pointer (some ⟨b, 0, none⟩), .int .i64 at_] W fun e w' => e = .returned (.tuple #[.int .u16 (loadM n ws at_ : Nat), .bool (inM n at_)]) ∧ Below W.heap.size W w' := load_any b n ws at_ W hM
theorem free_in {l : List (Nat × Int × Int)} {x : Nat} (h : (blockM l x).2 = 0) : (atM l x).2.2 = 0 := by
 unfold blockM at h
 split at h
 ·simp at h
 ·split at h
  ·assumption
  ·simp at h
set_option maxHeartbeats 2000000 in
theorem free_any (K : MK) (k : KOk K) (S : St) (s : SOk K S) (W : World) (h : At K S W) : Calls Tryz.prog 94 #[.pointer (some ⟨K.b, 0, none⟩)] W (OpEnd K W (freeM K S)) := by
 have HK := Lib.hid k
 have HP := Lib.hid (show freeM K S = freeR K (popsM K 1 S) from rfl)
 have hlen := popsM_len K 1 S
 have HC := Lib.hid (pops_any K k S s 1 (by omega) W h)
 clear h k s
 go_enter Tryz.func94, Tryz.ntmps94
 go_wp2_with fail
 refine (HC.out).mono ?_
 rintro e w1 ⟨A, c, rfl, hW, hA, ho⟩
 generalize popsM K 1 S = r at *
 obtain ⟨S1, l, t⟩ := r
 simp only at hlen hW hA
 have HA := Lib.hid hA
 have HO := Lib.hid ho
 have hbn : ∀ b o, A = some ⟨b, o, none⟩ → b ∉ K.bs := fun b o e => by
  obtain ⟨b', o', e', _, hc⟩ := hW.at_ (j := 0) (by omega)
  rw [e] at e'
  cases e'
  exact mask_notin hc.1
 obtain ⟨b, o, rfl, hc⟩ := word_cells hW (by omega)
 have HBN := Lib.hid (hbn b o rfl)
 clear hA ho hW HC hbn
 rw [hlen]
 dsimp only
 by_cases ht : t = 0
 ·subst ht
  obtain ⟨hc0, hr0⟩ := hc 0 (by omega)
  simp only [Nat.add_zero] at hc0
  have HX := Lib.hid (show freeM K S = freeL K (l.getD 0 0) S1 by rw [HP.out, freeR, if_neg (by simp)])
  generalize l.getD 0 0 = x0 at *
  have HC0 := Lib.hid hc0
  have hlt : b < w1.heap.size := lt_of_cell hc0
  have m3 := HA.out.c3
  have hml := HA.out.lt
  have HM := Lib.hid (fun n => (HA.out.grow (growN_below w1 n)).mem)
  have e1 : IntKind.i64.wrap (x0 : Int) = (x0 : Int) := IntWalk.i64_in _ (by omega)
  clear hc hlen HP
  go_wp2_with fail
  refine wp_region_grow (by kernel_rfl) (by kernel_rfl) ?_
  repeat (first | go_big_quiet_step (first
   | (go_at_call 40; refine quiet_grow (load_eq K.bm K.n S1.ws x0 _ (HM.out _)))))
  refine wpQuiet_nil ?_
  rintro _ ⟨gx, rfl⟩
  have H2 := Lib.hid (HA.out.grow (growN_below w1 gx))
  have HO2 := Lib.hid (HO.out.trans (Only.of_below (bs := K.bs) (growN_below w1 gx)))
  have HC2 := Lib.hid (((growN_below w1 gx).cell (p := ⟨b, o, none⟩) hlt).trans HC0.out)
  clear HA HO hc0 HC0 hlt m3 hml HM e1
  generalize growN w1 gx = w2 at *
  cases hi : inM K.n (x0 : Int)
  ·have HR := Lib.hid (show freeM K S = (S1, 15) by rw [HX.out, freeL, if_pos hi])
   go_wp2_with fail
   go_ret
   rw [HR.out]
   exact ⟨rfl, H2.out, HO2.out⟩
  ·have HX2 := Lib.hid (show freeM K S = if (blockM S1.blocks (loadM K.n S1.ws x0)).2 ≠ 0 then (S1, (blockM S1.blocks (loadM K.n S1.ws x0)).2)
    else ({ S1 with blocks := delB S1.blocks (loadM K.n S1.ws x0), ws := storeM K.n S1.ws x0 0 }, 0) by rw [HX.out, freeL, if_neg (by rw [hi]; decide)])
   have HIM := Lib.hid hi
   generalize loadM K.n S1.ws x0 = y at *
   have HBL := Lib.hid (block_any K S1 y w2 H2.out)
   have HFI := Lib.hid (free_in (l := S1.blocks) (x := y))
   clear HX hi
   go_wp2_with fail
   refine (HBL.out).mono ?_
   rintro e w3 ⟨rfl, hb3⟩
   generalize blockM S1.blocks y = bk at *
   obtain ⟨ba, bt⟩ := bk
   simp only at HX2 HFI
   have H3 := Lib.hid (H2.out.grow hb3)
   have HO3 := Lib.hid (HO2.out.trans (Only.of_below (bs := K.bs) hb3))
   have HC3 := Lib.hid ((hb3.cell (p := ⟨b, o, none⟩) (lt_of_cell HC2.out)).trans HC2.out)
   clear hb3 H2 HO2 HC2 HBL
   dsimp only
   by_cases hbt : bt = 0
   ·subst hbt
    have HFR := Lib.hid (hfree_any K HK.out S1 y w3 H3.out)
    rw [if_pos (HFI.out rfl), HFI.out rfl] at HFR
    have HR := Lib.hid (show freeM K S = ({ S1 with blocks := delB S1.blocks y, ws := storeM K.n S1.ws x0 0 }, 0) by rw [HX2.out, if_neg (by simp)])
    have c4 := H3.out.c4
    have hml := H3.out.lt
    clear HX2
    go_wp2_with fail
    refine (HFR.out).mono ?_
    rintro e w4 ⟨rfl, h4, ho4⟩
    have H4 := Lib.hid h4
    have HO4 := Lib.hid (HO3.out.trans ho4)
    have hc4 := ho4.cell' HC3.out HBN.out
    have hlt4 := lt_of_cell hc4
    simp only at hlt4
    have hcd := ((drew_below w4).cell (p := ⟨b, o, none⟩) hlt4).trans hc4
    have H5 := Lib.hid (H4.out.grow (drew_below w4))
    have HO5 := Lib.hid (HO4.out.trans (Only.of_below (bs := K.bs) (drew_below w4)))
    clear h4 ho4 H3 HO3 HC3 c4 hml HFR H4 HO4 hlt4 hc4
    go_wp2_with fail
    refine wp_region_tail 8 (by kernel_rfl) (by kernel_rfl) ?_
    generalize w4.drew = w5 at *
    have m3 := H5.out.c3
    have hml := H5.out.lt
    have e1 : IntKind.i64.wrap (x0 : Int) = (x0 : Int) := IntWalk.i64_in _ (by omega)
    simp only [List.take_succ_cons, List.take_zero, List.drop_succ_cons, List.drop_zero]
    repeat still_step
    refine wpStill_nil ?_
    go_wp2_with fail
    refine (store_any K.bs K.bm K.n HK.out.hm S1.ws x0 0 (by omega) w5 H5.out.mem).mono ?_
    rintro e w6 ⟨rfl, hm6, ho6, hf6⟩
    have H6 := Lib.hid (H5.out.setMem HK.out hm6 ho6 hf6)
    have HO6 := Lib.hid (HO5.out.trans ho6)
    clear hm6 ho6 hf6 H5 HO5 m3 hml e1 hcd
    go_wp2_with fail
    go_ret
    rw [HR.out]
    exact ⟨rfl, H6.out, HO6.out⟩
   ·have d := bne_iff_ne.2 (show (bt : Int) ≠ 0 by omega)
    have HR := Lib.hid (show freeM K S = (S1, bt) by rw [HX2.out, if_pos hbt])
    go_wp2_with fail
    go_ret
    rw [HR.out]
    exact ⟨rfl, H3.out, HO3.out⟩
 ·have d := bne_iff_ne.2 (show (t : Int) ≠ 0 by omega)
  have HR := Lib.hid (show freeM K S = (S1, t) by rw [HP.out, freeR, if_pos (by simpa using ht)])
  go_wp2_with fail
  go_ret
  rw [HR.out]
  exact ⟨rfl, HA.out, HO.out⟩
end Go.Proofs.YtabenhpjgjjgnaaGreatDoor
/- A machine writes a text that lies in memory. -/
namespace Go.Proofs.YtabenhpjgjjgnaaGreatDoor
open Go.RowKit
set_option maxRecDepth 100000
attribute [local go_sem ↓] Go.wp_at_zero Go.wp_at_succ
theorem wrs_end (K : MK) (S : St) (s : List UInt8) : wrsE K S ((some ([] : List UInt8)).map (s ++ ·)) = writesM K s S := by
 simp [wrsE]
theorem ofNat_low (x : Nat) : ((UInt8.ofNat x).toNat : Int) = ((x % 256 : Nat) : Int) := by simp [UInt8.toNat_ofNat']
theorem own_next {w' : World} {B : Nat} {v' : Value} {s : List UInt8} {x : Nat} (h : w'.ownsRow B 5 1 v' (s.length + 1) ((byteVals s).toList ++ [.int .u8 ((x % 256 : Nat) : Int)])) : w'.ownsRow B 5 1 v' (s ++ [UInt8.ofNat x]).length (byteVals (s ++ [UInt8.ofNat x])).toList := by
 rw [byteVals_append, List.length_append]
 have e : (byteVals [UInt8.ofNat x]).toList = [Value.int .u8 ((x % 256 : Nat) : Int)] := by simp only [byteVals, List.map_cons, List.map_nil]; rw [ofNat_low]
 rw [e]
 exact h
set_option maxHeartbeats 4000000 in
theorem wrs_any (K : MK) (k : KOk K) (S : St) (s : SOk K S) (hm0 : 0 ≤ K.most) (hm1 : K.most ≤ 1000000) (hou : S.out.length ≤ 1000000) (W : World) (h : At K S W) : Calls Tryz.prog 97 #[.pointer (some ⟨K.b, 0, none⟩)] W (OpEnd K W (wrsM K S)) := by
 have HK := Lib.hid k
 have HP := Lib.hid (show wrsM K S = wrsR K (popsM K 2 S) from rfl)
 have hlen := popsM_len K 2 S
 have hout := popsM_out K 2 S
 have HC := Lib.hid (pops_any K k S s 2 (by omega) W h)
 clear h k s
 go_enter Tryz.func97, Tryz.ntmps97
 go_wp2_with fail
 refine (HC.out).mono ?_
 rintro e w1 ⟨A, c, rfl, hW, hA, ho⟩
 generalize popsM K 2 S = r at *
 obtain ⟨S1, l, t⟩ := r
 simp only at hlen hW hA hout
 rw [← hout] at hou
 have HA := Lib.hid hA
 have HO := Lib.hid ho
 obtain ⟨b, o, rfl, hc⟩ := word_cells hW (by omega)
 clear hA ho hW HC hout
 rw [hlen]
 dsimp only
 by_cases ht : t = 0
 ·subst ht
  obtain ⟨hc0, hr0⟩ := hc 0 (by omega)
  obtain ⟨hc1, hr1⟩ := hc 1 (by omega)
  simp only [Nat.add_zero] at hc0
  have HX := Lib.hid (show wrsM K S = wrsE K S1 (wrsL K.n S1.ws (l.getD 1 0 + 1) (l.getD 0 0)) by rw [HP.out, wrsR, if_neg (by simp)])
  generalize l.getD 0 0 = x0 at *
  generalize l.getD 1 0 = x1 at *
  have HC0 := Lib.hid hc0
  have HC1 := Lib.hid hc1
  have hlt : b < w1.heap.size := lt_of_cell hc0
  have HWR := Lib.hid (fun (s : List UInt8) (hs : s.length ≤ 1000000) W' (h' : At K S1 W') => writes_any K HK.out S1 s hs hm0 hm1 hou W' h')
  clear hc hlen HP hc0 hc1
  go_wp2_with fail
  go_loopg [5, 6] (x1 + 1) (fun g v x wr => ∃ (j m : Nat) (s : List UInt8), x = .int .i64 (j : Nat) ∧ j + m = x1 + 1 ∧ m ≤ g ∧ s.length = j ∧ wr.ownsRow w1.heap.size 5 1 v s.length (byteVals s).toList ∧ Below w1.heap.size w1 wr ∧
   wrsM K S = wrsE K S1 ((wrsL K.n S1.ws m (x0 + j)).map (s ++ ·)))
  case atStart => exact ⟨0, x1 + 1, [], rfl, by omega, Nat.le_refl _, rfl, ⟨rfl, .inl ⟨rfl, rfl⟩⟩, Below.refl _ _, by rw [HX.out]; simp⟩
  case round =>
   obtain ⟨j, m, s, rfl, hj, hmg, hsl, hown, hb, he⟩ := hrel
   have H1 := Lib.hid (HA.out.grow hb)
   have HO1 := Lib.hid (HO.out.trans (Only.of_below (bs := K.bs) hb))
   have HB := Lib.hid hb
   have HE := Lib.hid he
   have HOWN := Lib.hid hown
   have HSL := Lib.hid hsl
   have HJ := Lib.hid hj
   have hjx : j ≤ 65536 := by omega
   have c0 := (hb.cell (p := ⟨b, o, none⟩) hlt).trans HC0.out
   have c1 := (hb.cell (p := ⟨b, o + 1, none⟩) hlt).trans HC1.out
   have hlr : b < wr.heap.size := lt_of_cell c0
   have hszr := hb.size
   clear hb he hown hsl
   cases m with
   | zero =>
     have HR := Lib.hid (show wrsM K S = writesM K s S1 by rw [HE.out]; exact wrs_end K S1 s)
     have d0 : (x1 : Int) < (j : Int) := by omega
     have hcv := conv_own HOWN.out
     have hs6 : s.length ≤ 1000000 := by have := HSL.out; omega
     clear hj
     go_wp2_with fail
     refine (HWR.out s hs6 _ H1.out).mono ?_
     rintro e w2 ⟨rfl, h2, ho2⟩
     go_wp2_with fail
     go_ret
     rw [HR.out]
     exact ⟨rfl, h2, HO1.out.trans ho2⟩
   | succ m =>
     have d0 : (j : Int) ≤ (x1 : Int) := by omega
     have m3 := H1.out.c3
     have hml := H1.out.lt
     have HM := Lib.hid (fun n => (H1.out.grow (growN_below wr n)).mem)
     clear hj
     go_upto_region 8 with (fail)
     refine wp_region_grow (by kernel_rfl) (by kernel_rfl) ?_
     repeat (first | go_big_quiet_step (first
      | (go_at_call 40; refine quiet_grow (load_eq K.bm K.n S1.ws (x0 + j) _ (HM.out _)))))
     refine wpQuiet_nil ?_
     rintro _ ⟨gx, rfl⟩
     have H2 := Lib.hid (H1.out.grow (growN_below wr gx))
     have HO2 := Lib.hid (HO1.out.trans (Only.of_below (bs := K.bs) (growN_below wr gx)))
     have HB2 := Lib.hid (HB.out.trans ((growN_below wr gx).mono HB.out.size))
     have HOWN2 := Lib.hid (K16.own_later HOWN.out (growN_below wr gx))
     clear H1 HO1 HB HOWN c0 c1 hlr m3 hml HM hszr d0
     generalize growN wr gx = w2 at *
     have HE2 := Lib.hid (show wrsM K S = wrsE K S1 ((if inM K.n ((x0 : Int) + j) = false then none else if (loadM K.n S1.ws ((x0 : Int) + j)) % 256 = 0 then some [] else (wrsL K.n S1.ws m ((x0 : Int) + j + 1)).map (UInt8.ofNat (loadM K.n S1.ws ((x0 : Int) + j)) :: ·)).map (s ++ ·)) by rw [HE.out]; rfl)
     have HXL := Lib.hid (loadM_lt (n := K.n) H2.out.mem.small ((x0 : Int) + j))
     clear HE
     cases hi : inM K.n ((x0 : Int) + j)
     ·have HR := Lib.hid (show wrsM K S = (S1, 15) by rw [HE2.out, if_pos hi]; rfl)
      go_wp2_with fail
      go_ret
      rw [HR.out]
      exact ⟨rfl, H2.out, HO2.out⟩
     ·have HE3 := Lib.hid (show wrsM K S = wrsE K S1 ((if (loadM K.n S1.ws ((x0 : Int) + j)) % 256 = 0 then some [] else (wrsL K.n S1.ws m ((x0 : Int) + j + 1)).map (UInt8.ofNat (loadM K.n S1.ws ((x0 : Int) + j)) :: ·)).map (s ++ ·)) by rw [HE2.out, if_neg (by rw [hi]; decide)])
      clear HE2 hi
      generalize loadM K.n S1.ws ((x0 : Int) + j) = x at *
      have hw8 : IntKind.u8.wrap (x : Int) = ((x % 256 : Nat) : Int) := by rw [IntKind.wrap_u8]; omega
      have HX8 := Lib.hid (ofNat_low x)
      by_cases hz : x % 256 = 0
      ·have HR := Lib.hid (show wrsM K S = writesM K s S1 by rw [HE3.out, if_pos hz]; exact wrs_end K S1 s)
       have hcv := conv_own HOWN2.out
       have hs6 : s.length ≤ 1000000 := by have := HSL.out; omega
       rw [hz] at hw8
       go_wp2_with fail
       refine (HWR.out s hs6 _ H2.out).mono ?_
       rintro e w3 ⟨rfl, h3, ho3⟩
       go_wp2_with fail
       go_ret
       rw [HR.out]
       exact ⟨rfl, h3, HO2.out.trans ho3⟩
      ·have HE4 := Lib.hid (show wrsM K S = wrsE K S1 ((wrsL K.n S1.ws m ((x0 : Int) + (j + 1 : Nat))).map ((s ++ [UInt8.ofNat x]) ++ ·)) by
        rw [HE3.out, if_neg hz, show (x0 : Int) + (j + 1 : Nat) = (x0 : Int) + j + 1 by omega]
        cases wrsL K.n S1.ws m ((x0 : Int) + j + 1) with
        | none => rfl
        | some r => simp [wrsE])
       have d2 : (((x % 256 : Nat) : Int) == 0) = false := beq_eq_false_iff_ne.2 (by omega)
       have hs2 : s.length ≤ 65536 := by have := HSL.out; omega
       have hbs := HB2.out.size
       generalize hx8 : x % 256 = x8 at *
       clear HE3 hz
       go_wp2_with (at_builtin; refine wpList_app etBytes rfl _ _ rfl w1.heap.size _ _ _ rfl (HOWN2.out.alloc _) _ 1 [.int .u8 (x8 : Int)] rfl (src_new etBytes w2 #[.int .u8 (x8 : Int)] 5 1 1 rfl (by simp [Value.oneCell'])) (by omega) (by unfold maxLen; omega) (by simp; omega) ?_; intro v9 w9 hA9)
       have H9 := Lib.hid (show Below w1.heap.size w1 w9 from hA9.below (HB2.out.alloc hbs _) (by simp; omega) (HOWN2.out.alloc _) (Nat.le_refl _))
       have O9 := Lib.hid hA9.own
       clear hA9
       go_wp2_with fail
       go_roundg m
       case measure => omega
       case rel =>
        have hj := HJ.out
        have hsl := HSL.out
        refine ⟨j + 1, m, s ++ [UInt8.ofNat x], rfl, by omega, Nat.le_refl _, by simp; omega, ?_, H9.out, HE4.out⟩
        have := O9.out
        rw [← hx8] at this
        exact own_next this
 ·have d := bne_iff_ne.2 (show (t : Int) ≠ 0 by omega)
  have HR := Lib.hid (show wrsM K S = (S1, t) by rw [HP.out, wrsR, if_pos (by simpa using ht)])
  go_wp2_with fail
  go_ret
  rw [HR.out]
  exact ⟨rfl, HA.out, HO.out⟩
end Go.Proofs.YtabenhpjgjjgnaaGreatDoor
/- A machine ends a line. -/
namespace Go.Proofs.YtabenhpjgjjgnaaGreatDoor
open Go.RowKit
set_option maxRecDepth 100000
attribute [local go_sem ↓] Go.wp_at_zero Go.wp_at_succ
theorem wrln_any (K : MK) (k : KOk K) (S : St) (hm0 : 0 ≤ K.most) (hm1 : K.most ≤ 1000000) (ho : S.out.length ≤ 1000000) (W : World) (h : At K S W) (x : Nat) (cx : W.cell? ⟨x, 0, none⟩ = some (.pointer (some ⟨K.b, 0, none⟩))) :
 Calls Tryz.prog 99 #[.pointer (some ⟨x, 0, none⟩)] W (OpEnd K W (writesM K [10] S)) := by
 have HC := Lib.hid (writes_any K k S [10] (by simp) hm0 hm1 ho W h)
 clear h
 go_enter Tryz.func99, Tryz.ntmps99
 go_wp2_with fail
 refine (HC.out).mono ?_
 rintro e w1 ⟨rfl, hA, ho⟩
 go_wp2_with fail
 go_ret
 exact ⟨rfl, hA, ho⟩
end Go.Proofs.YtabenhpjgjjgnaaGreatDoor
/- A heap's blocks, gone through. -/
namespace Go.Proofs.YtabenhpjgjjgnaaGreatDoor
open Go.RowKit Go.Shelf
set_option maxRecDepth 100000
def bval (x : Nat × Int × Int) : Value := .agg #[.int .i64 x.2.1, .int .i64 x.2.2]
def bkey (x : Nat × Int × Int) : Value := .int .u16 (x.1 : Int)
theorem bent_eq (x : Nat × Int × Int) : bent x = (bkey x, bval x) := rfl
def unbent : Value × Value → Nat × Int × Int
 | (.int _ k, .agg cs) => match cs.toList with
   | [.int _ a, .int _ n] => (k.toNat, a, n)
   | _ => (0, 0, 0)
 | _ => (0, 0, 0)
theorem unbent_bent (x : Nat × Int × Int) : unbent (bent x) = x := rfl
theorem filter_push (seen : Array Nat) (e : MapEntry) : ∀ (l : List MapEntry), (l.map (·.born)).Nodup → e ∈ l → seen.contains e.born = false → (l.filter fun x => (seen.push e.born).contains x.born).Perm (l.filter (fun x => seen.contains x.born) ++ [e])
 | [], _, he, _ => by cases he
 | x :: l, hn, he, hs => by
   rw [List.map_cons, List.nodup_cons] at hn
   by_cases hx : x = e
   ·subst hx
    have h1 : (seen.push x.born).contains x.born = true := by rw [contains_push, beq_self_eq_true, Bool.or_true]
    rw [List.filter_cons_of_pos (by simp), List.filter_cons_of_neg (p := fun y : MapEntry => seen.contains y.born) (by rw [hs]; simp)]
    have h2 : l.filter (fun y => (seen.push x.born).contains y.born) = l.filter (fun y => seen.contains y.born) := by
     apply List.filter_congr
     intro y hy
     rw [contains_push]
     have : (y.born == x.born) = false := beq_eq_false_iff_ne.2 (fun e => hn.1 (e ▸ List.mem_map.2 ⟨y, hy, rfl⟩))
     rw [this, Bool.or_false]
    rw [h2]
    exact (List.perm_append_singleton _ _).symm
   ·have hel : e ∈ l := (List.mem_cons.1 he).resolve_left (fun h => hx h.symm)
    have ih := filter_push seen e l hn.2 hel hs
    have hne : (x.born == e.born) = false := beq_eq_false_iff_ne.2 (fun h => hn.1 (h ▸ List.mem_map.2 ⟨e, hel, rfl⟩))
    have h1 : (seen.push e.born).contains x.born = seen.contains x.born := by rw [contains_push, hne, Bool.or_false]
    cases hc : seen.contains x.born with
    | true =>
      rw [List.filter_cons_of_pos (p := fun y : MapEntry => (seen.push e.born).contains y.born) (by rw [h1, hc]), List.filter_cons_of_pos (p := fun y : MapEntry => seen.contains y.born) hc]
      exact ih.cons x
    | false =>
      rw [List.filter_cons_of_neg (p := fun y : MapEntry => (seen.push e.born).contains y.born) (by rw [h1, hc]; simp), List.filter_cons_of_neg (p := fun y : MapEntry => seen.contains y.born) (by rw [hc]; simp)]
      exact ih
def Wk (q it : Nat) (l xs : List (Nat × Int × Int)) (W : World) : Prop :=
 ∃ es clock seen, W.heap[q]? = some (.map es clock) ∧ es.toList.map (fun e => (e.key, e.val)) = l.map bent ∧ (∀ e ∈ es.toList, e.born < clock) ∧ es.toList.Pairwise (fun a b => a.born < b.born) ∧
   W.heap[it]? = some (.mapIter (some q) clock seen clock) ∧ (xs.map bent).Perm ((es.toList.filter fun e => seen.contains e.born).map fun e => (e.key, e.val))
theorem Wk.keeps {q it : Nat} {l xs : List (Nat × Int × Int)} {W W' : World} (h : Wk q it l xs W) (hk : KeepsWalks W W') : Wk q it l xs W' := by
 obtain ⟨es, cl, seen, h1, h2, h3, h4, h5, h6⟩ := h
 exact ⟨es, cl, seen, hk.same q _ h1 rfl, h2, h3, h4, hk.same it _ h5 rfl, h6⟩
theorem Wk.walk {q it : Nat} {l xs : List (Nat × Int × Int)} {W : World} (h : Wk q it l xs W) : ∃ o : Obj, W.heap[it]? = some o ∧ o.isWalk = true := by
 obtain ⟨es, cl, seen, h1, h2, h3, h4, h5, h6⟩ := h
 exact ⟨_, h5, rfl⟩
theorem Wk.left {q it : Nat} {l xs : List (Nat × Int × Int)} {W W' : World} (h : Wk q it l xs W) (hk : KeepsWalks W W') : W'.rangeLeft q it = W.rangeLeft q it := by
 obtain ⟨es, cl, seen, h1, h2, h3, h4, h5, h6⟩ := h
 simp only [World.rangeLeft, h1, h5, hk.same q _ h1 rfl, hk.same it _ h5 rfl]
theorem wk_range {P : Program} {t k e : TypeId} (ht : P.underlying t = some (.map k e)) {q : Nat} {l : List (Nat × Int × Int)} {W : World} (h : BlocksAt q l W) :
 ∃ w', (Instr.range t (.map (some q))).run P W = .ok (.pointer (some ⟨W.heap.size, 0, none⟩)) w' ∧ Wk q W.heap.size l [] w' ∧ W.grownBy w' none := by
 have hlt := h.lt
 obtain ⟨es, cl, h1, h2, h3, h4⟩ := h
 refine ⟨_, run_range_map W t k e q es cl ht h1, ⟨es, cl, #[], ((MapKept.heap_alloc W _).2 q hlt).trans h1, h2, h3, h4, (MapKept.heap_alloc W _).1, ?_⟩, World.grownBy_alloc W _ none⟩
 simp
theorem pw_nodup {l : List MapEntry} (h : l.Pairwise (fun a b => a.born < b.born)) : (l.map (·.born)).Nodup := by
 rw [List.nodup_iff_pairwise_ne, List.pairwise_map]
 exact h.imp (fun h => Nat.ne_of_lt h)
theorem wk_next {P : Program} {q it : Nat} {l xs : List (Nat × Int × Int)} {W : World} (h : Wk q it l xs W) (hne : it ≠ q) :
 (xs.Perm l ∧ ∀ ty, (Instr.next (.pointer (some ⟨it, 0, none⟩)) false ty).run P W = .ok (.tuple #[.bool false]) W) ∨
 ∃ x w', (∀ ty, (Instr.next (.pointer (some ⟨it, 0, none⟩)) false ty).run P W = .ok (.tuple #[.bool true, bkey x, bval x]) w') ∧ Wk q it l (xs ++ [x]) w' ∧ w'.rangeLeft q it < W.rangeLeft q it ∧ W.grownBy w' (some it) ∧ xs.length < l.length ∧
   (Instr.entry (.pointer (some ⟨it, 0, none⟩))).run P w' = .ok (.tuple #[bkey x, bval x]) w' := by
 obtain ⟨es, cl, seen, h1, h2, h3, h4, h5, h6⟩ := h
 have hall := run_next_at (P := P) W 0 it q cl cl seen es cl h5 h1 h3 (Nat.le_refl _)
 have hty : ∀ ty, Instr.next (.pointer (some ⟨it, 0, none⟩)) false ty = Instr.next (.pointer (some ⟨it, 0, none⟩)) false 0 := fun ty => rfl
 rcases hall with ⟨h0, hrun⟩ | ⟨e, he, w1, hal, hrun⟩
 ·refine .inl ⟨?_, fun ty => by rw [hty]; exact hrun⟩
  have hf : es.toList.filter (fun e => seen.contains e.born) = es.toList := List.filter_eq_self.2 (fun x hx => all_seen es seen h0 x hx)
  rw [hf, h2] at h6
  have := h6.map unbent
  rw [List.map_map, List.map_map] at this
  have hid : (unbent ∘ bent) = id := funext unbent_bent
  rwa [hid, List.map_id, List.map_id] at this
 ·obtain ⟨hem, hes⟩ := mem_left he
  have hb : (e.key, e.val) ∈ l.map bent := by rw [← h2]; exact List.mem_map.2 ⟨e, hem, rfl⟩
  obtain ⟨x, hx, hxe⟩ := List.mem_map.1 hb
  have hk : e.key = bkey x := (Prod.mk.inj hxe).1.symm
  have hv : e.val = bval x := (Prod.mk.inj hxe).2.symm
  have hr1 : w1.heap[it]? = some (.mapIter (some q) cl seen cl) := by rcases hal with rfl | rfl <;> exact h5
  have hb1 : w1.heap[q]? = some (.map es cl) := by rcases hal with rfl | rfl <;> exact h1
  have hset := MapKept.heap_set (o' := .mapIter (some q) cl (seen.push e.born) cl) hr1
  have hq' : (ChangeMaps.setBlock w1 it (.mapIter (some q) cl (seen.push e.born) cl)).heap[q]? = some (.map es cl) := (hset.2 q (fun h => hne h.symm)).trans hb1
  have hperm := filter_push seen e es.toList (pw_nodup h4) hem hes
  have hp2 : ((xs ++ [x]).map bent).Perm ((es.toList.filter fun e' => (seen.push e.born).contains e'.born).map fun e => (e.key, e.val)) := by
   refine List.Perm.trans ?_ (hperm.map _).symm
   rw [List.map_append, List.map_append]
   refine List.Perm.append h6 ?_
   simp [hk, hv, bent_eq]
  refine .inr ⟨x, _, fun ty => by rw [hty, hrun, hk, hv], ⟨es, cl, seen.push e.born, hq', h2, h3, h4, hset.1, hp2⟩, ?_, ?_, ?_, ?_⟩
  ·have := left_shrinks es seen e he
   simp only [World.rangeLeft, h1, h5, hq', show (ChangeMaps.setBlock w1 it (.mapIter (some q) cl (seen.push e.born) cl)).heap[it]? = _ from hset.1]
   exact this
  ·rcases hal with rfl | rfl <;> exact ⟨rfl, rfl, rfl, by simp [ChangeMaps.setBlock], fun i _ hi => hset.2 i (fun e1 => hi (by rw [e1]))⟩
  ·have l1 := hp2.length_eq
   have l2 := congrArg List.length h2
   simp only [List.length_map, List.length_append, List.length_cons, List.length_nil] at l1 l2
   have := List.length_filter_le (fun e' : MapEntry => (seen.push e.born).contains e'.born) es.toList
   omega
  ·have := run_entry_at (P := P) _ it q cl seen es cl e hset.1 hq' hem (pw_nodup h4)
   rw [hk, hv] at this
   exact this
end Go.Proofs.YtabenhpjgjjgnaaGreatDoor
