/- A machine's add. A machine's li. A machine loads a word of a frame, as a closure. A heap's blocks as a map. Where a heap's new block has room. A heap's look-up of a block. Condition: what lies in memory can lie there; what each theorem says. -/
import Derived.Test.YtabenhpjgjjgnaaGreatDoorBav
import Derived.Test.YtabenhpjgjjgnaaGreatDoorBau
import Derived.Test.YtabenhpjgjjgnaaGreatDoorBaw
import Derived.Test.YtabenhpjgjjgnaaGreatDoorBaf
import Derived.Test.YtabenhpjgjjgnaaGreatDoorBab
import Derived.Deep.RegionHeld3
import Derived.LoopN
import Derived.Deep.DrawnRows
/- A machine's add. -/
namespace Go.Proofs.YtabenhpjgjjgnaaGreatDoor
open Go.RowKit
set_option maxRecDepth 100000
attribute [local go_sem ↓] Go.wp_at_zero Go.wp_at_succ
theorem add_first (q t : Nat) (W : World) (hq : W.cell? ⟨q, 0, none⟩ = some (.int .u8 t)) : Calls Tryz.prog 139 #[.pointer (some ⟨q, 0, none⟩)] W (fun e w' => e = .returned (.int .u8 t) ∧ W = w') := by
 go_enter Tryz.func139, Tryz.ntmps139
 go_wp2_with fail
 go_ret
 exact ⟨rfl, rfl⟩
theorem add_traps (g q t : Nat) (cap1 : Array Value) (W : World) (hg0 : W.cell? ⟨g, 0, none⟩ = some (.func (.func 139) #[] #[.pointer (some ⟨q, 0, none⟩)])) (hg1 : W.cell? ⟨g, 1, none⟩ = some (.func (.func 140) #[] cap1)) (hq : W.cell? ⟨q, 0, none⟩ = some (.int .u8 t))
 (R : Ending → World → Prop) (h0 : t ≠ 0 → R (.returned (.int .u8 t)) W) (h1 : t = 0 → Calls Tryz.prog 140 cap1 W (fun e w' => ∃ u : Nat, e = .returned (.int .u8 u) ∧ R (.returned (.int .u8 u)) w')) : Calls Tryz.prog 136 #[.slice (some ⟨g, 0, none⟩) 2 2] W R := by
 have hF := add_first q t W hq
 have HF := Lib.hid hF
 have H0 := Lib.hid h0
 have H1 := Lib.hid h1
 clear hF h0 h1
 by_cases ht : t = 0
 ·subst ht
  have HC := Lib.hid (H1.out rfl)
  go_enter Tryz.func136, Tryz.ntmps136
  go_wp2_with fail
  refine wp_loop_rounds 3 ?_
  rw [rounds_succ]
  go_wp2_with fail
  refine (HF.out).mono ?_
  rintro e w' ⟨rfl, rfl⟩
  go_wp2_with fail
  rw [rounds_succ]
  go_wp2_with fail
  refine (HC.out).mono ?_
  rintro e w' ⟨u, rfl, hR⟩
  have HR := Lib.hid hR
  clear hR
  by_cases hu : u = 0
  ·subst hu
   go_wp2_with fail
   rw [rounds_succ]
   go_wp2_with fail
   exact HR.out
  ·have d := bne_iff_ne.2 (show (u : Int) ≠ 0 by omega)
   go_wp2_with fail
   exact HR.out
 ·have HC := Lib.hid (H0.out ht)
  have d := bne_iff_ne.2 (show (t : Int) ≠ 0 by omega)
  clear ht
  go_enter Tryz.func136, Tryz.ntmps136
  go_wp2_with fail
  refine wp_loop_rounds 3 ?_
  rw [rounds_succ]
  go_wp2_with fail
  refine (HF.out).mono ?_
  rintro e w' ⟨rfl, rfl⟩
  go_wp2_with fail
  exact HC.out
theorem add_second (K : MK) (k : KOk K) (S : St) (s : SOk K S) (ha : 0 < S.args.length) (hq0 : -1000000 ≤ S.args.getD 0 0) (hq1 : S.args.getD 0 0 ≤ 1000000) (W : World) (h : At K S W) (x y b o c x0 : Nat) (hr : x0 < 65536) (cx : W.cell? ⟨x, 0, none⟩ = some (.pointer (some ⟨K.b, 0, none⟩)))
 (cy : W.cell? ⟨y, 0, none⟩ = some (.slice (some ⟨b, o, none⟩) 1 c)) (c0 : W.cell? ⟨b, o, none⟩ = some (.int .u16 (x0 : Nat))) :
 Calls Tryz.prog 140 #[.pointer (some ⟨x, 0, none⟩), .pointer (some ⟨y, 0, none⟩)] W (OpEnd K W (addressM K (x0 + S.args.getD 0 0) S)) := by
 have dx := ((drew_below W).cell (p := ⟨x, 0, none⟩) (lt_of_cell cx)).trans cx
 have dy := ((drew_below W).cell (p := ⟨y, 0, none⟩) (lt_of_cell cy)).trans cy
 have d0 := ((drew_below W).cell (p := ⟨b, o, none⟩) (lt_of_cell c0)).trans c0
 have H := Lib.hid (h.grow (drew_below W))
 have HO := Lib.hid (Only.of_below (bs := K.bs) (drew_below W))
 clear cx cy c0 h
 go_enter Tryz.func140, Tryz.ntmps140
 go_wp2_with fail
 refine wp_region_tail 12 (by kernel_rfl) (by kernel_rfl) ?_
 generalize W.drew = w2 at *
 have hmlt := H.out.lt
 obtain ⟨ab, ao, ac, c16, hab, a0c⟩ := H.out.arg (j := 0) ha
 simp only [Nat.add_zero] at a0c
 generalize S.args.getD 0 0 = q at *
 simp only [List.take_succ_cons, List.take_zero, List.drop_succ_cons, List.drop_zero]
 repeat still_step
 refine wpStill_nil ?_
 go_wp2_with fail
 refine (address_any K k S s (x0 + q) w2 H.out).mono ?_
 rintro e w5 ⟨rfl, h5, ho5⟩
 go_wp2_with fail
 go_ret
 exact ⟨rfl, h5, HO.out.trans ho5⟩
def addR (K : MK) (r : St × List Nat × Nat) : St × Nat := if r.2.2 ≠ 0 then (r.1, r.2.2) else addressM K (r.2.1.getD 0 0 + r.1.args.getD 0 0) r.1
def addM (K : MK) (S : St) : St × Nat := addR K (popsM K 1 S)
set_option maxHeartbeats 2000000 in
theorem add_any (K : MK) (k : KOk K) (S : St) (s : SOk K S) (ha : 0 < S.args.length) (hq0 : -1000000 ≤ S.args.getD 0 0) (hq1 : S.args.getD 0 0 ≤ 1000000) (W : World) (h : At K S W) :
 Calls Tryz.prog 74 #[.pointer (some ⟨K.b, 0, none⟩)] W (OpEnd K W (addM K S)) := by
 have HX0 := Lib.hid (Bx.new W #[.pointer (some ⟨K.b, 0, none⟩)] 30)
 have HB0 := Lib.hid (alloc_below W (.cells #[.pointer (some ⟨K.b, 0, none⟩)] 30))
 have H0 := Lib.hid (h.grow HB0.out)
 have HN0 := Lib.hid (show W.heap.size ∉ K.bs from fun hm => by have := h.old _ hm; omega)
 have HS := Lib.hid s
 have HS1 := Lib.hid (popsM_ok s 1)
 have HP := Lib.hid (show addM K S = addR K (popsM K 1 S) from rfl)
 have hlen := popsM_len K 1 S
 have harg : (popsM K 1 S).1.args = S.args := by unfold popsM; split <;> rfl
 clear h s
 go_enter Tryz.func74, Tryz.ntmps74
 go_wp2_with fail
 generalize W.alloc (.cells #[.pointer (some ⟨K.b, 0, none⟩)] 30) = w0 at *
 refine (pops_any K k S HS.out 1 (by omega) _ H0.out).mono ?_
 rintro e w1 ⟨A, c, rfl, hW, hA, ho⟩
 generalize popsM K 1 S = r at *
 obtain ⟨S1, l, t⟩ := r
 simp only at hlen hW hA harg HS1
 rw [← harg] at ha hq0 hq1
 have HX1 := Lib.hid (HX0.out.only ho HN0.out)
 have HO1 := Lib.hid ((Only.of_below (bs := K.bs) HB0.out).trans ho)
 have HA1 := Lib.hid hA
 obtain ⟨b, o, rfl, hc⟩ := word_cells hW (by omega)
 obtain ⟨hc0, hr0⟩ := hc 0 (by omega)
 simp only [Nat.add_zero] at hc0
 have HC0 := Lib.hid hc0
 have HR0 := Lib.hid hr0
 have HV := Lib.hid (show addM K S = addR K (S1, l, t) from HP.out)
 have HQ := Lib.hid (And.intro ha (And.intro hq0 hq1))
 rw [hlen]
 clear hA ho hW hc H0 HB0 hc0 hr0 HP hlen harg ha hq0 hq1
 dsimp only
 have e1 : (w1.alloc (.cells #[.slice (some ⟨b, o, none⟩) 1 c] 40)).heap.size = w1.heap.size + 1 := by simp
 have e2 : ((w1.alloc (.cells #[.slice (some ⟨b, o, none⟩) 1 c] 40)).alloc (.cells #[.int .u8 (t : Nat)] 5)).heap.size = w1.heap.size + 1 + 1 := by simp
 have q0 := Bx.grow (Bx.new w1 #[.slice (some ⟨b, o, none⟩) 1 c] 40) (alloc_below _ (.cells #[.int .u8 (t : Nat)] 5))
 have q1 := Bx.new (w1.alloc (.cells #[.slice (some ⟨b, o, none⟩) 1 c] 40)) #[.int .u8 (t : Nat)] 5
 rw [e1] at q1
 have HB2 := Lib.hid (((Below.refl _ _).alloc (Nat.le_refl _) _).alloc (by rw [e1]; omega) _ : Below w1.heap.size w1 ((w1.alloc (.cells #[.slice (some ⟨b, o, none⟩) 1 c] 40)).alloc (.cells #[.int .u8 (t : Nat)] 5)))
 have Q0 := Lib.hid q0
 have Q1 := Lib.hid q1
 have HE2 := Lib.hid e2
 clear q0 q1 e1 e2
 go_wp2_with fail
 generalize hw2 : ((w1.alloc (.cells #[.slice (some ⟨b, o, none⟩) 1 c] 40)).alloc (.cells #[.int .u8 (t : Nat)] 5)) = w2 at *
 clear hw2
 have HB3 := Lib.hid (alloc_below w2 (.cells #[.func (.func 139) #[] #[.pointer (some ⟨w1.heap.size + 1, 0, none⟩)], .func (.func 140) #[] #[.pointer (some ⟨W.heap.size, 0, none⟩), .pointer (some ⟨w1.heap.size, 0, none⟩)]] 89))
 have q2 := Bx.new w2 #[.func (.func 139) #[] #[.pointer (some ⟨w1.heap.size + 1, 0, none⟩)], .func (.func 140) #[] #[.pointer (some ⟨W.heap.size, 0, none⟩), .pointer (some ⟨w1.heap.size, 0, none⟩)]] 89
 rw [HE2.out] at q2
 generalize w2.alloc (.cells #[.func (.func 139) #[] #[.pointer (some ⟨w1.heap.size + 1, 0, none⟩)], .func (.func 140) #[] #[.pointer (some ⟨W.heap.size, 0, none⟩), .pointer (some ⟨w1.heap.size, 0, none⟩)]] 89) = w3 at *
 have HB := Lib.hid (HB2.out.trans (HB3.out.mono HB2.out.size))
 have h3 := Lib.hid (HA1.out.grow HB.out)
 have ho3 := Lib.hid (HO1.out.trans (Only.of_below (bs := K.bs) HB.out))
 have HX3 := Lib.hid (HX1.out.grow HB.out)
 have Q03 := Lib.hid (Q0.out.grow HB3.out)
 have HC3 := Lib.hid ((HB.out.cell (lt_of_cell HC0.out)).trans HC0.out)
 refine add_traps (w1.heap.size + 1 + 1) (w1.heap.size + 1) t _ w3 ((q2.cell 0).trans rfl) ((q2.cell 1).trans rfl) (((Q1.out.grow HB3.out).cell 0).trans rfl) _ ?_ ?_
 ·intro ht
  go_wp2_with fail
  go_ret
  rw [HV.out, addR, if_pos (by simpa using ht)]
  exact ⟨rfl, h3.out, ho3.out⟩
 ·intro ht
  refine (add_second K k S1 HS1.out HQ.out.1 HQ.out.2.1 HQ.out.2.2 w3 h3.out W.heap.size w1.heap.size b o c (l.getD 0 0) HR0.out ((HX3.out.cell 0).trans rfl) ((Q03.out.cell 0).trans rfl) HC3.out).mono ?_
  rintro e w4 ⟨rfl, h4, ho4⟩
  refine ⟨_, rfl, ?_⟩
  go_wp2_with fail
  go_ret
  rw [HV.out, addR, if_neg (by simpa using ht)]
  exact ⟨rfl, h4, ho3.out.trans ho4⟩
end Go.Proofs.YtabenhpjgjjgnaaGreatDoor
/- A machine's li. -/
namespace Go.Proofs.YtabenhpjgjjgnaaGreatDoor
open Go.RowKit
set_option maxRecDepth 100000
attribute [local go_sem ↓] Go.wp_at_zero Go.wp_at_succ
theorem li_first (q t : Nat) (W : World) (hq : W.cell? ⟨q, 0, none⟩ = some (.int .u8 t)) : Calls Tryz.prog 137 #[.pointer (some ⟨q, 0, none⟩)] W (fun e w' => e = .returned (.int .u8 t) ∧ W = w') := by
 go_enter Tryz.func137, Tryz.ntmps137
 go_wp2_with fail
 go_ret
 exact ⟨rfl, rfl⟩
theorem li_traps (g q t : Nat) (cap1 : Array Value) (W : World) (hg0 : W.cell? ⟨g, 0, none⟩ = some (.func (.func 137) #[] #[.pointer (some ⟨q, 0, none⟩)])) (hg1 : W.cell? ⟨g, 1, none⟩ = some (.func (.func 138) #[] cap1)) (hq : W.cell? ⟨q, 0, none⟩ = some (.int .u8 t))
 (R : Ending → World → Prop) (h0 : t ≠ 0 → R (.returned (.int .u8 t)) W) (h1 : t = 0 → Calls Tryz.prog 138 cap1 W (fun e w' => ∃ u : Nat, e = .returned (.int .u8 u) ∧ R (.returned (.int .u8 u)) w')) : Calls Tryz.prog 136 #[.slice (some ⟨g, 0, none⟩) 2 2] W R := by
 have hF := li_first q t W hq
 have HF := Lib.hid hF
 have H0 := Lib.hid h0
 have H1 := Lib.hid h1
 clear hF h0 h1
 by_cases ht : t = 0
 ·subst ht
  have HC := Lib.hid (H1.out rfl)
  go_enter Tryz.func136, Tryz.ntmps136
  go_wp2_with fail
  refine wp_loop_rounds 3 ?_
  rw [rounds_succ]
  go_wp2_with fail
  refine (HF.out).mono ?_
  rintro e w' ⟨rfl, rfl⟩
  go_wp2_with fail
  rw [rounds_succ]
  go_wp2_with fail
  refine (HC.out).mono ?_
  rintro e w' ⟨u, rfl, hR⟩
  have HR := Lib.hid hR
  clear hR
  by_cases hu : u = 0
  ·subst hu
   go_wp2_with fail
   rw [rounds_succ]
   go_wp2_with fail
   exact HR.out
  ·have d := bne_iff_ne.2 (show (u : Int) ≠ 0 by omega)
   go_wp2_with fail
   exact HR.out
 ·have HC := Lib.hid (H0.out ht)
  have d := bne_iff_ne.2 (show (t : Int) ≠ 0 by omega)
  clear ht
  go_enter Tryz.func136, Tryz.ntmps136
  go_wp2_with fail
  refine wp_loop_rounds 3 ?_
  rw [rounds_succ]
  go_wp2_with fail
  refine (HF.out).mono ?_
  rintro e w' ⟨rfl, rfl⟩
  go_wp2_with fail
  exact HC.out
theorem li_second (K : MK) (k : KOk K) (S : St) (s : SOk K S) (ha : 0 < S.args.length) (hq0 : -1000000 ≤ S.args.getD 0 0) (hq1 : S.args.getD 0 0 ≤ 1000000) (W : World) (h : At K S W) (x y b o c x0 : Nat) (hr : x0 < 65536) (cx : W.cell? ⟨x, 0, none⟩ = some (.pointer (some ⟨K.b, 0, none⟩)))
 (cy : W.cell? ⟨y, 0, none⟩ = some (.slice (some ⟨b, o, none⟩) 1 c)) (c0 : W.cell? ⟨b, o, none⟩ = some (.int .u16 (x0 : Nat))) :
 Calls Tryz.prog 138 #[.pointer (some ⟨x, 0, none⟩), .pointer (some ⟨y, 0, none⟩)] W (OpEnd K W (loadsM K (x0 + S.args.getD 0 0) S)) := by
 have dx := ((drew_below W).cell (p := ⟨x, 0, none⟩) (lt_of_cell cx)).trans cx
 have dy := ((drew_below W).cell (p := ⟨y, 0, none⟩) (lt_of_cell cy)).trans cy
 have d0 := ((drew_below W).cell (p := ⟨b, o, none⟩) (lt_of_cell c0)).trans c0
 have H := Lib.hid (h.grow (drew_below W))
 have HO := Lib.hid (Only.of_below (bs := K.bs) (drew_below W))
 clear cx cy c0 h
 go_enter Tryz.func138, Tryz.ntmps138
 go_wp2_with fail
 refine wp_region_tail 12 (by kernel_rfl) (by kernel_rfl) ?_
 generalize W.drew = w2 at *
 have hmlt := H.out.lt
 obtain ⟨ab, ao, ac, c16, hab, a0c⟩ := H.out.arg (j := 0) ha
 simp only [Nat.add_zero] at a0c
 generalize S.args.getD 0 0 = q at *
 simp only [List.take_succ_cons, List.take_zero, List.drop_succ_cons, List.drop_zero]
 repeat still_step
 refine wpStill_nil ?_
 go_wp2_with fail
 refine (loads_any K k S s (x0 + q) w2 H.out).mono ?_
 rintro e w5 ⟨rfl, h5, ho5⟩
 go_wp2_with fail
 go_ret
 exact ⟨rfl, h5, HO.out.trans ho5⟩
def liR (K : MK) (r : St × List Nat × Nat) : St × Nat := if r.2.2 ≠ 0 then (r.1, r.2.2) else loadsM K (r.2.1.getD 0 0 + r.1.args.getD 0 0) r.1
def liM (K : MK) (S : St) : St × Nat := liR K (popsM K 1 S)
set_option maxHeartbeats 2000000 in
theorem li_any (K : MK) (k : KOk K) (S : St) (s : SOk K S) (ha : 0 < S.args.length) (hq0 : -1000000 ≤ S.args.getD 0 0) (hq1 : S.args.getD 0 0 ≤ 1000000) (W : World) (h : At K S W) :
 Calls Tryz.prog 72 #[.pointer (some ⟨K.b, 0, none⟩)] W (OpEnd K W (liM K S)) := by
 have HX0 := Lib.hid (Bx.new W #[.pointer (some ⟨K.b, 0, none⟩)] 30)
 have HB0 := Lib.hid (alloc_below W (.cells #[.pointer (some ⟨K.b, 0, none⟩)] 30))
 have H0 := Lib.hid (h.grow HB0.out)
 have HN0 := Lib.hid (show W.heap.size ∉ K.bs from fun hm => by have := h.old _ hm; omega)
 have HS := Lib.hid s
 have HS1 := Lib.hid (popsM_ok s 1)
 have HP := Lib.hid (show liM K S = liR K (popsM K 1 S) from rfl)
 have hlen := popsM_len K 1 S
 have harg : (popsM K 1 S).1.args = S.args := by unfold popsM; split <;> rfl
 clear h s
 go_enter Tryz.func72, Tryz.ntmps72
 go_wp2_with fail
 generalize W.alloc (.cells #[.pointer (some ⟨K.b, 0, none⟩)] 30) = w0 at *
 refine (pops_any K k S HS.out 1 (by omega) _ H0.out).mono ?_
 rintro e w1 ⟨A, c, rfl, hW, hA, ho⟩
 generalize popsM K 1 S = r at *
 obtain ⟨S1, l, t⟩ := r
 simp only at hlen hW hA harg HS1
 rw [← harg] at ha hq0 hq1
 have HX1 := Lib.hid (HX0.out.only ho HN0.out)
 have HO1 := Lib.hid ((Only.of_below (bs := K.bs) HB0.out).trans ho)
 have HA1 := Lib.hid hA
 obtain ⟨b, o, rfl, hc⟩ := word_cells hW (by omega)
 obtain ⟨hc0, hr0⟩ := hc 0 (by omega)
 simp only [Nat.add_zero] at hc0
 have HC0 := Lib.hid hc0
 have HR0 := Lib.hid hr0
 have HV := Lib.hid (show liM K S = liR K (S1, l, t) from HP.out)
 have HQ := Lib.hid (And.intro ha (And.intro hq0 hq1))
 rw [hlen]
 clear hA ho hW hc H0 HB0 hc0 hr0 HP hlen harg ha hq0 hq1
 dsimp only
 have e1 : (w1.alloc (.cells #[.slice (some ⟨b, o, none⟩) 1 c] 40)).heap.size = w1.heap.size + 1 := by simp
 have e2 : ((w1.alloc (.cells #[.slice (some ⟨b, o, none⟩) 1 c] 40)).alloc (.cells #[.int .u8 (t : Nat)] 5)).heap.size = w1.heap.size + 1 + 1 := by simp
 have q0 := Bx.grow (Bx.new w1 #[.slice (some ⟨b, o, none⟩) 1 c] 40) (alloc_below _ (.cells #[.int .u8 (t : Nat)] 5))
 have q1 := Bx.new (w1.alloc (.cells #[.slice (some ⟨b, o, none⟩) 1 c] 40)) #[.int .u8 (t : Nat)] 5
 rw [e1] at q1
 have HB2 := Lib.hid (((Below.refl _ _).alloc (Nat.le_refl _) _).alloc (by rw [e1]; omega) _ : Below w1.heap.size w1 ((w1.alloc (.cells #[.slice (some ⟨b, o, none⟩) 1 c] 40)).alloc (.cells #[.int .u8 (t : Nat)] 5)))
 have Q0 := Lib.hid q0
 have Q1 := Lib.hid q1
 have HE2 := Lib.hid e2
 clear q0 q1 e1 e2
 go_wp2_with fail
 generalize hw2 : ((w1.alloc (.cells #[.slice (some ⟨b, o, none⟩) 1 c] 40)).alloc (.cells #[.int .u8 (t : Nat)] 5)) = w2 at *
 clear hw2
 have HB3 := Lib.hid (alloc_below w2 (.cells #[.func (.func 137) #[] #[.pointer (some ⟨w1.heap.size + 1, 0, none⟩)], .func (.func 138) #[] #[.pointer (some ⟨W.heap.size, 0, none⟩), .pointer (some ⟨w1.heap.size, 0, none⟩)]] 89))
 have q2 := Bx.new w2 #[.func (.func 137) #[] #[.pointer (some ⟨w1.heap.size + 1, 0, none⟩)], .func (.func 138) #[] #[.pointer (some ⟨W.heap.size, 0, none⟩), .pointer (some ⟨w1.heap.size, 0, none⟩)]] 89
 rw [HE2.out] at q2
 generalize w2.alloc (.cells #[.func (.func 137) #[] #[.pointer (some ⟨w1.heap.size + 1, 0, none⟩)], .func (.func 138) #[] #[.pointer (some ⟨W.heap.size, 0, none⟩), .pointer (some ⟨w1.heap.size, 0, none⟩)]] 89) = w3 at *
 have HB := Lib.hid (HB2.out.trans (HB3.out.mono HB2.out.size))
 have h3 := Lib.hid (HA1.out.grow HB.out)
 have ho3 := Lib.hid (HO1.out.trans (Only.of_below (bs := K.bs) HB.out))
 have HX3 := Lib.hid (HX1.out.grow HB.out)
 have Q03 := Lib.hid (Q0.out.grow HB3.out)
 have HC3 := Lib.hid ((HB.out.cell (lt_of_cell HC0.out)).trans HC0.out)
 refine li_traps (w1.heap.size + 1 + 1) (w1.heap.size + 1) t _ w3 ((q2.cell 0).trans rfl) ((q2.cell 1).trans rfl) (((Q1.out.grow HB3.out).cell 0).trans rfl) _ ?_ ?_
 ·intro ht
  go_wp2_with fail
  go_ret
  rw [HV.out, liR, if_pos (by simpa using ht)]
  exact ⟨rfl, h3.out, ho3.out⟩
 ·intro ht
  refine (li_second K k S1 HS1.out HQ.out.1 HQ.out.2.1 HQ.out.2.2 w3 h3.out W.heap.size w1.heap.size b o c (l.getD 0 0) HR0.out ((HX3.out.cell 0).trans rfl) ((Q03.out.cell 0).trans rfl) HC3.out).mono ?_
  rintro e w4 ⟨rfl, h4, ho4⟩
  refine ⟨_, rfl, ?_⟩
  go_wp2_with fail
  go_ret
  rw [HV.out, liR, if_neg (by simpa using ht)]
  exact ⟨rfl, h4, ho3.out.trans ho4⟩
end Go.Proofs.YtabenhpjgjjgnaaGreatDoor
/- A machine loads a word of a frame, as a closure. -/
namespace Go.Proofs.YtabenhpjgjjgnaaGreatDoor
open Go.RowKit
set_option maxRecDepth 100000
attribute [local go_sem ↓] Go.wp_at_zero Go.wp_at_succ
def localM (K : MK) (doF : Int → St → St × Nat) (S : St) : St × Nat :=
 if (outM K (S.args.getD 0 0).toNat S).2 ≠ 0 then (S, (outM K (S.args.getD 0 0).toNat S).2)
 else if K.high ≤ (outM K (S.args.getD 0 0).toNat S).1 + 5 + S.args.getD 1 0 then (S, 15)
 else doF ((outM K (S.args.getD 0 0).toNat S).1 + 5 + S.args.getD 1 0) S
theorem outM_le {K : MK} (k : KOk K) {S : St} (s : SOk K S) (hw : ∀ i, S.ws i < 65536) (l : Nat) : 0 ≤ (outM K l S).1 ∧ (outM K l S).1 ≤ 65536 := by
 unfold outM
 split
 ·exact ⟨by decide, by decide⟩
 ·have h1 := k.low1; have h2 := s.fp1; have h3 := s.top; have h4 := k.high; have h5 := k.n_le
  have h6 := (hereOk k s.toROk)
  unfold baseN at h3
  exact outL_le K S.ws hw l S.fp (by omega) (by omega)
theorem out_eq (K : MK) (k : KOk K) (S : St) (s : SOk K S) (l : Nat) (hl : l ≤ 1000000) (W : World) (h : At K S W) : Calls Tryz.prog 135 #[.pointer (some ⟨K.b, 0, none⟩), .int .i64 l] W fun e w' => e = .returned (.tuple #[.int .i64 (outM K l S).1, .int .u8 ((outM K l S).2 : Nat)]) ∧ Below W.heap.size W w' := out_frame K k S s l hl W h
set_option maxHeartbeats 2000000 in
theorem localLoads_any (K : MK) (k : KOk K) (S : St) (s : SOk K S) (ha : 1 < S.args.length) (hl0 : 0 ≤ S.args.getD 0 0) (hl1 : S.args.getD 0 0 ≤ 1000000) (hq0 : 0 ≤ S.args.getD 1 0) (hq1 : S.args.getD 1 0 ≤ 1000000) (W : World) (h : At K S W) (x y : Nat) (_hx : x ∉ K.bs) (_hy : y ∉ K.bs)
 (cx : W.cell? ⟨x, 0, none⟩ = some (.pointer (some ⟨K.b, 0, none⟩))) (cy : W.cell? ⟨y, 0, none⟩ = some (.func (.func 68) #[.pointer (some ⟨K.b, 0, none⟩)] #[])) :
 Calls Tryz.prog 134 #[.pointer (some ⟨x, 0, none⟩), .pointer (some ⟨y, 0, none⟩)] W (OpEnd K W (localM K (loadsM K) S)) := by
 have HK := Lib.hid k
 have HS := Lib.hid s
 have HL := Lib.hid (outM_le k s h.mem.small (S.args.getD 0 0).toNat)
 have HR0 := Lib.hid (show localM K (loadsM K) S = if (outM K (S.args.getD 0 0).toNat S).2 ≠ 0 then (S, (outM K (S.args.getD 0 0).toNat S).2)
  else if K.high ≤ (outM K (S.args.getD 0 0).toNat S).1 + 5 + S.args.getD 1 0 then (S, 15)
  else loadsM K ((outM K (S.args.getD 0 0).toNat S).1 + 5 + S.args.getD 1 0) S from rfl)
 have H := Lib.hid h
 have HG := Lib.hid (show ∀ x, At K S (growN W x) from fun x => h.grow (growN_below W x))
 obtain ⟨ab, ao, ac, c16, hab, a0c⟩ := h.arg (j := 0) (by omega)
 simp only [Nat.add_zero] at a0c
 have HAL := Lib.hid ha
 have DX := Lib.hid cx
 have DY := Lib.hid cy
 have hl2 : 0 < S.args.length := by omega
 have s0 := h.lt
 have s1 := lt_of_cell cx
 simp only at s1
 generalize ha0 : S.args.getD 0 0 = l at *
 clear ha0
 obtain ⟨ln, rfl⟩ := Int.eq_ofNat_of_zero_le hl0
 rw [Int.toNat_natCast] at HR0 HL
 clear h k s ha cy
 go_enter Tryz.func134, Tryz.ntmps134
 go_wp2_with fail
 refine wp_region_grow (by kernel_rfl) (by kernel_rfl) ?_
 repeat (first | go_big_quiet_step (first
  | (go_at_call 135; refine quiet_grow (out_eq K HK.out S HS.out ln (by omega) _ (HG.out _)))))
 refine wpQuiet_nil ?_
 rintro _ ⟨gx, rfl⟩
 have H2 := Lib.hid (HG.out gx)
 have HO2 := Lib.hid (Only.of_below (bs := K.bs) (growN_below W gx))
 have dx := ((growN_below W gx).cell (p := ⟨x, 0, none⟩) (lt_of_cell DX.out)).trans DX.out
 have dy := ((growN_below W gx).cell (p := ⟨y, 0, none⟩) (lt_of_cell DY.out)).trans DY.out
 clear c16 hab a0c s0 s1 cx H HG DX DY hl2
 generalize growN W gx = w2 at *
 obtain ⟨ab', ao', ac', c16, hab, a1c⟩ := H2.out.arg (j := 1) HAL.out
 generalize ha1 : S.args.getD 1 0 = q at *
 generalize outM K ln S = r at *
 obtain ⟨fp, t⟩ := r
 simp only at HR0 HL
 obtain ⟨f0, f1⟩ := HL.out
 have hal1 : 1 < S.args.length := HAL.out
 have k8 := H2.out.c8
 have s0 := H2.out.lt
 clear ha1
 by_cases ht : t = 0
 ·subst ht
  have HR1 := Lib.hid (show localM K (loadsM K) S = if K.high ≤ fp + 5 + q then (S, 15) else loadsM K (fp + 5 + q) S by rw [HR0.out, if_neg (by simp)])
  clear HR0
  by_cases hh : K.high ≤ fp + 5 + q
  ·have HR := Lib.hid (show localM K (loadsM K) S = (S, 15) by rw [HR1.out, if_pos hh])
   have d0 := decide_eq_true hh
   go_wp2_with fail
   go_ret
   rw [HR.out]
   exact ⟨rfl, H2.out, HO2.out⟩
  ·have HR := Lib.hid (show localM K (loadsM K) S = loadsM K (fp + 5 + q) S by rw [HR1.out, if_neg hh])
   have hh' : fp + 5 + q < K.high := by omega
   have d0 : decide (K.high ≤ fp + 5 + q) = false := decide_eq_false hh
   clear hh HR1
   go_wp2_with fail
   refine (loads_any K HK.out S HS.out (fp + 5 + q) _ H2.out).mono ?_
   rintro e w3 ⟨rfl, h3, ho3⟩
   go_wp2_with fail
   go_ret
   rw [HR.out]
   exact ⟨rfl, h3, HO2.out.trans ho3⟩
 ·have d := bne_iff_ne.2 (show (t : Int) ≠ 0 by omega)
  have HR := Lib.hid (show localM K (loadsM K) S = (S, t) by rw [HR0.out, if_pos (by simpa using ht)])
  clear HR0
  go_wp2_with fail
  go_ret
  rw [HR.out]
  exact ⟨rfl, H2.out, HO2.out⟩
end Go.Proofs.YtabenhpjgjjgnaaGreatDoor
/- A heap's blocks as a map. -/
namespace Go.Proofs.YtabenhpjgjjgnaaGreatDoor
open Go.RowKit
set_option maxRecDepth 100000
def findR : List (Nat × Int × Int) → Nat → Nat → Option (Nat × Value)
 | [], _, _ => none
 | y :: l, x, i => if y.1 = x then some (i, (bent y).2) else findR l x (i + 1)
def findB (l : List (Nat × Int × Int)) (x : Nat) : Option (Int × Int) := (l.find? fun y => y.1 == x).map (·.2)
def delB (l : List (Nat × Int × Int)) (x : Nat) : List (Nat × Int × Int) := l.eraseP fun y => y.1 == x
theorem findR_none {l : List (Nat × Int × Int)} {x i : Nat} (h : findB l x = none) : findR l x i = none := by
 induction l generalizing i with
 | nil => rfl
 | cons y l ih =>
   unfold findB at h ih
   rw [List.find?_cons] at h
   unfold findR
   by_cases hy : y.1 = x
   ·rw [show (y.1 == x) = true by simp [hy]] at h; cases h
   ·rw [show (y.1 == x) = false by simp [hy]] at h
    rw [if_neg hy]; exact ih h
theorem findR_some {l : List (Nat × Int × Int)} {x i : Nat} {a n : Int} (h : findB l x = some (a, n)) : ∃ j, findR l x i = some (i + j, .agg #[.int .i64 a, .int .i64 n]) ∧ j < l.length ∧ l.eraseIdx j = delB l x := by
 induction l generalizing i with
 | nil => cases h
 | cons y l ih =>
   unfold findB at h ih
   unfold delB at ih ⊢
   rw [List.find?_cons] at h
   unfold findR
   rw [List.eraseP_cons]
   by_cases hy : y.1 = x
   ·rw [show (y.1 == x) = true by simp [hy]] at h ⊢
    simp only [Option.map_some, Option.some.injEq] at h
    rw [if_pos hy]
    exact ⟨0, by simp [bent, h], by simp, by simp⟩
   ·rw [show (y.1 == x) = false by simp [hy]] at h ⊢
    rw [if_neg hy]
    obtain ⟨j, h1, h2, h3⟩ := ih (i := i + 1) h
    exact ⟨j + 1, by rw [h1]; congr 2; omega, by simp; omega, by simp [h3]⟩
theorem find_now : ∀ (l : List (Nat × Int × Int)) (es : List MapEntry) (x i : Nat), es.map (fun e => (e.key, e.val)) = l.map bent → Instr.findNow (.int .u16) (.int .u16 (x : Int)) es i = some (findR l x i)
 | [], [], _, _, _ => rfl
 | [], _ :: _, _, _, h => by simp at h
 | _ :: _, [], _, _, h => by simp at h
 | y :: l, e :: es, x, i, h => by
   simp only [List.map_cons, List.cons.injEq] at h
   obtain ⟨h1, h2⟩ := h
   have hk : e.key = .int .u16 (y.1 : Int) := (Prod.mk.inj h1).1
   have hv : e.val = (bent y).2 := (Prod.mk.inj h1).2
   unfold Instr.findNow findR
   rw [hk]
   by_cases hy : y.1 = x
   ·rw [if_pos hy, hv]
    simp [Instr.sameNow, hy]
   ·rw [if_neg hy]
    have : ((x : Int) == (y.1 : Int)) = false := beq_eq_false_iff_ne.2 (by omega)
    simp only [Instr.sameNow, if_true, this]
    exact find_now l es x (i + 1) h2
theorem map_erase {α β : Type} (f : α → β) (l : List α) (i : Nat) : (l.eraseIdx i).map f = (l.map f).eraseIdx i := by
 rw [List.eraseIdx_eq_take_drop_succ, List.eraseIdx_eq_take_drop_succ]; simp
section
variable {P : Program} {mty kt et : TypeId}
theorem bl_look (hm : P.underlying mty = some (.map kt et)) (hd : P.underlying kt = some (.int .u16)) {q : Nat} {l : List (Nat × Int × Int)} {W : World} (h : BlocksAt q l W) (x : Nat) {a n : Int} (hf : findB l x = some (a, n)) :
 (Instr.lookup mty (.map (some q)) (.int .u16 (x : Int)) true).run P W = .ok (.tuple #[.agg #[.int .i64 a, .int .i64 n], .bool true]) W := by
 obtain ⟨es, cl, hb, he, _, _⟩ := h
 obtain ⟨j, hj, _⟩ := findR_some (i := 0) hf
 have hn := find_now l es.toList x 0 he
 rw [hj] at hn
 simp [Instr.lookup, run_underlying hm, MapKept.run_getObj_map hb, MapKept.run_checkKey (k := .int .u16 (x : Int)) hd rfl, MapKept.run_findKey hd hn, Result.andThen]
theorem bl_miss (hm : P.underlying mty = some (.map kt et)) (hd : P.underlying kt = some (.int .u16)) {z : Value} (hz : ∀ w, (zeroValue et).run P w = .ok z w) {q : Nat} {l : List (Nat × Int × Int)} {W : World} (h : BlocksAt q l W) (x : Nat) (hf : findB l x = none) :
 (Instr.lookup mty (.map (some q)) (.int .u16 (x : Int)) true).run P W = .ok (.tuple #[z, .bool false]) W := by
 obtain ⟨es, cl, hb, he, _, _⟩ := h
 have hn := find_now l es.toList x 0 he
 rw [findR_none hf] at hn
 simp [Instr.lookup, run_underlying hm, MapKept.run_getObj_map hb, MapKept.run_checkKey (k := .int .u16 (x : Int)) hd rfl, MapKept.run_findKey hd hn, Result.andThen, hz]
theorem bl_put (hm : P.underlying mty = some (.map kt et)) (hd : P.underlying kt = some (.int .u16)) {q : Nat} {l : List (Nat × Int × Int)} {W : World} (h : BlocksAt q l W) (x : Nat) (a n : Int) (hf : findB l x = none) :
 ∃ o, (Instr.mapUpdate mty (.map (some q)) (.int .u16 (x : Int)) (.agg #[.int .i64 a, .int .i64 n])).run P W = .ok () (putObj W q o) ∧ BlocksAt q (l ++ [(x, a, n)]) (putObj W q o) := by
 have hlt := h.lt
 obtain ⟨es, cl, hb, he, h1, h2⟩ := h
 have hn := find_now l es.toList x 0 he
 rw [findR_none hf] at hn
 refine ⟨_, by
  simp [Instr.mapUpdate, run_underlying hm, MapKept.run_getObj_map hb, MapKept.run_checkKey (k := .int .u16 (x : Int)) hd rfl, MapKept.run_findKey hd hn, MapKept.run_setObj_map _ hb, Result.andThen]
  rfl, ?_⟩
 refine ⟨_, _, putObj_at hlt, ?_, ?_, ?_⟩
 ·simp [he, bent]
 ·intro e hm
  simp only [Array.toList_push, List.mem_append, List.mem_singleton] at hm
  rcases hm with hm | rfl
  ·have := h1 e hm; omega
  ·exact Nat.lt_succ_self _
 ·simp only [Array.toList_push]
  rw [List.pairwise_append]
  refine ⟨h2, by simp, fun a ha b hb => ?_⟩
  simp only [List.mem_singleton] at hb
  subst hb
  exact h1 a ha
theorem bl_del (hm : P.underlying mty = some (.map kt et)) (hd : P.underlying kt = some (.int .u16)) {q : Nat} {l : List (Nat × Int × Int)} {W : World} (h : BlocksAt q l W) (x : Nat) {a n : Int} (hf : findB l x = some (a, n)) :
 ∃ o, (∀ ty, (Builtin.delete_ #[mty, kt] ty #[.map (some q), .int .u16 (x : Int)]).run P W = .ok (.tuple #[]) (putObj W q o)) ∧ BlocksAt q (delB l x) (putObj W q o) := by
 have hlt := h.lt
 obtain ⟨es, cl, hb, he, h1, h2⟩ := h
 obtain ⟨j, hj, hjl, hjd⟩ := findR_some (i := 0) hf
 have hn := find_now l es.toList x 0 he
 rw [hj, Nat.zero_add] at hn
 have hes : es.size = l.length := by
  have := congrArg List.length he
  simpa using this
 refine ⟨_, fun ty => by
  simp [Builtin.delete_, run_underlying hm, MapKept.run_getObj_map hb, MapKept.run_checkKey (k := .int .u16 (x : Int)) hd rfl, MapKept.run_findKey hd hn, MapKept.run_setObj_map _ hb, Result.andThen]
  rfl, ?_⟩
 have e : (es.eraseIdxIfInBounds j).toList = es.toList.eraseIdx j := by
  unfold Array.eraseIdxIfInBounds
  rw [dif_pos (by omega)]
  simp
 refine ⟨_, _, putObj_at hlt, ?_, ?_, ?_⟩
 ·rw [e, ← hjd, map_erase, map_erase, he]
 ·rw [e]
  exact fun z hz => h1 z (List.mem_of_mem_eraseIdx hz)
 ·rw [e]
  exact h2.sublist (List.eraseIdx_sublist _ _)
end
end Go.Proofs.YtabenhpjgjjgnaaGreatDoor
/- Where a heap's new block has room. -/
namespace Go.Proofs.YtabenhpjgjjgnaaGreatDoor
open Go.RowKit
def gapsM : Int → Int → List (Int × Int) → Int
 | at_, _, [] => at_
 | at_, n, b :: l => if n ≤ b.1 - at_ then at_ else gapsM (b.1 + b.2) n l
def rowsOf (l : List (Nat × Int × Int)) : List (Int × Int) := (l.map (·.2)).mergeSort fun x y => decide (x.1 ≤ y.1)
def placeAt (fr hn : Int) (rows : List (Int × Int)) (n : Int) : Int := gapsM fr n (rows ++ [(fr + hn, 0)])
def placeM (fr hn : Int) (l : List (Nat × Int × Int)) (n : Int) : Int × Bool := (placeAt fr hn (rowsOf l) n, decide (n ≤ fr + hn - placeAt fr hn (rowsOf l) n))
def Apart (x y : Int × Int) : Prop := x.1 + x.2 ≤ y.1 ∨ y.1 + y.2 ≤ x.1
structure HOk (fr hn last : Int) (l : List (Nat × Int × Int)) : Prop where
 num : ∀ x ∈ l, (x.1 : Int) ≤ last
 last0 : 0 ≤ last
 last1 : last ≤ 65535
 lie : ∀ x ∈ l, fr ≤ x.2.1 ∧ 1 ≤ x.2.2 ∧ x.2.1 + x.2.2 ≤ fr + hn
 once : (l.map (·.1)).Nodup
 apart : (l.map (·.2)).Pairwise Apart
theorem Apart.symm {x y : Int × Int} (h : Apart x y) : Apart y x := h.elim .inr .inl
theorem rowsOf_perm (l : List (Nat × Int × Int)) : (rowsOf l).Perm (l.map (·.2)) := List.mergeSort_perm _ _
theorem rowsOf_sorted (l : List (Nat × Int × Int)) : (rowsOf l).Pairwise fun x y => x.1 ≤ y.1 := by
 have := List.pairwise_mergeSort (le := fun (x y : Int × Int) => decide (x.1 ≤ y.1)) (by intro a b c; simp; omega) (by intro a b; simp; omega) (l.map (·.2))
 exact this.imp fun h => by simpa using h
theorem rows_chain {l : List (Int × Int)} (hs : l.Pairwise fun x y => x.1 ≤ y.1) (ha : l.Pairwise Apart) (hp : ∀ x ∈ l, 1 ≤ x.2) : l.Pairwise fun x y => x.1 + x.2 ≤ y.1 := by
 induction l with
 | nil => exact .nil
 | cons x l ih =>
   rw [List.pairwise_cons] at hs ha ⊢
   refine ⟨fun y hy => ?_, ih hs.2 ha.2 (fun z hz => hp z (List.mem_cons_of_mem _ hz))⟩
   have h1 := hs.1 y hy
   have h2 := hp y (List.mem_cons_of_mem _ hy)
   rcases ha.1 y hy with h | h
   ·exact h
   ·omega
theorem gaps_ge {n : Int} : ∀ (l : List (Int × Int)) (at_ : Int), (l.Pairwise fun x y => x.1 + x.2 ≤ y.1) → (∀ x ∈ l, at_ ≤ x.1) → (∀ x ∈ l, 0 ≤ x.2) → at_ ≤ gapsM at_ n l
 | [], at_, _, _, _ => Int.le_refl _
 | b :: l, at_, hp, h0, h2 => by
   unfold gapsM
   split
   ·exact Int.le_refl _
   ·rw [List.pairwise_cons] at hp
    have a1 := h0 b (List.mem_cons_self ..)
    have a2 := h2 b (List.mem_cons_self ..)
    have := gaps_ge (n := n) l (b.1 + b.2) hp.2 (fun x hx => hp.1 x hx) (fun x hx => h2 x (List.mem_cons_of_mem _ hx))
    omega
theorem gaps_apart {n : Int} : ∀ (l : List (Int × Int)) (at_ : Int), (l.Pairwise fun x y => x.1 + x.2 ≤ y.1) → (∀ x ∈ l, at_ ≤ x.1) → (∀ x ∈ l, 0 ≤ x.2) → ∀ x ∈ l, x.1 + x.2 ≤ gapsM at_ n l ∨ gapsM at_ n l + n ≤ x.1
 | [], _, _, _, _, x, hx => by cases hx
 | b :: l, at_, hp, h0, h2, x, hx => by
   rw [List.pairwise_cons] at hp
   unfold gapsM
   by_cases hg : n ≤ b.1 - at_
   ·rw [if_pos hg]
    right
    rcases List.mem_cons.1 hx with rfl | hx
    ·omega
    ·have a2 := h2 b (List.mem_cons_self ..)
     have := hp.1 x hx
     omega
   ·rw [if_neg hg]
    have a2 := h2 b (List.mem_cons_self ..)
    rcases List.mem_cons.1 hx with rfl | hx
    ·left
     exact gaps_ge (n := n) l _ hp.2 (fun y hy => hp.1 y hy) (fun y hy => h2 y (List.mem_cons_of_mem _ hy))
    ·exact gaps_apart l _ hp.2 (fun y hy => hp.1 y hy) (fun y hy => h2 y (List.mem_cons_of_mem _ hy)) x hx
theorem rows_all {fr hn last : Int} {l : List (Nat × Int × Int)} (h : HOk fr hn last l) (h0 : 0 ≤ hn) : ((rowsOf l ++ [(fr + hn, 0)]).Pairwise fun (x y : Int × Int) => x.1 + x.2 ≤ y.1) ∧ (∀ x ∈ rowsOf l ++ [(fr + hn, 0)], fr ≤ x.1 ∧ 0 ≤ x.2 ∧ x.1 + x.2 ≤ fr + hn) := by
 have hm : ∀ x ∈ rowsOf l, fr ≤ x.1 ∧ 1 ≤ x.2 ∧ x.1 + x.2 ≤ fr + hn := fun x hx => by
  have hx' := (rowsOf_perm l).mem_iff.1 hx
  obtain ⟨y, hy, rfl⟩ := List.mem_map.1 hx'
  exact h.lie y hy
 refine ⟨List.pairwise_append.2 ⟨rows_chain (rowsOf_sorted l) ((rowsOf_perm l).symm.pairwise h.apart (fun h => h.symm)) (fun x hx => (hm x hx).2.1), List.pairwise_singleton _ _, fun x hx y hy => ?_⟩, fun x hx => ?_⟩
 ·simp only [List.mem_singleton] at hy
  subst hy
  exact (hm x hx).2.2
 ·rcases List.mem_append.1 hx with hx | hx
  ·have := hm x hx; omega
  ·simp only [List.mem_singleton] at hx
   subst hx
   simp only; omega
theorem place_ge {fr hn last : Int} {l : List (Nat × Int × Int)} (h : HOk fr hn last l) (h0 : 0 ≤ hn) (n : Int) : fr ≤ placeAt fr hn (rowsOf l) n := by
 obtain ⟨h1, h2⟩ := rows_all h h0
 exact gaps_ge _ _ h1 (fun x hx => (h2 x hx).1) (fun x hx => (h2 x hx).2.1)
theorem HOk.make {fr hn last : Int} {l : List (Nat × Int × Int)} (h : HOk fr hn last l) (h0 : 0 ≤ hn) {n : Int} (hn1 : 1 ≤ n) (hp : (placeM fr hn l n).2 = true) (hl : last < 65535) :
 HOk fr hn (last + 1) (l ++ [((last + 1).toNat, (placeM fr hn l n).1, n)]) := by
 obtain ⟨h1, h2⟩ := rows_all h h0
 have hg := gaps_apart (n := n) _ fr h1 (fun x hx => (h2 x hx).1) (fun x hx => (h2 x hx).2.1)
 have hge := place_ge h h0 n
 have hl0 := h.last0
 have hr : n ≤ fr + hn - placeAt fr hn (rowsOf l) n := by simpa [placeM] using hp
 show HOk fr hn (last + 1) (l ++ [((last + 1).toNat, placeAt fr hn (rowsOf l) n, n)])
 refine ⟨fun x hx => ?_, by omega, by omega, fun x hx => ?_, ?_, ?_⟩
 ·rcases List.mem_append.1 hx with hx | hx
  ·have := h.num x hx; omega
  ·simp only [List.mem_singleton] at hx
   subst hx
   simp only; omega
 ·rcases List.mem_append.1 hx with hx | hx
  ·exact h.lie x hx
  ·simp only [List.mem_singleton] at hx
   subst hx
   simp only; omega
 ·rw [List.map_append, List.nodup_append]
  refine ⟨h.once, by simp, fun a ha b hb => ?_⟩
  simp only [List.map_cons, List.map_nil, List.mem_singleton] at hb
  subst hb
  obtain ⟨y, hy, rfl⟩ := List.mem_map.1 ha
  have := h.num y hy
  omega
 ·rw [List.map_append, List.pairwise_append]
  refine ⟨h.apart, by simp, fun a ha b hb => ?_⟩
  simp only [List.map_cons, List.map_nil, List.mem_singleton] at hb
  subst hb
  rcases hg a (List.mem_append_left _ ((rowsOf_perm l).mem_iff.2 ha)) with h' | h'
  ·exact .inl h'
  ·exact .inr h'
theorem delB_sub (l : List (Nat × Int × Int)) (x : Nat) : (delB l x).Sublist l := List.eraseP_sublist
theorem HOk.free {fr hn last : Int} {l : List (Nat × Int × Int)} (h : HOk fr hn last l) (x : Nat) : HOk fr hn last (delB l x) :=
 ⟨fun y hy => h.num y ((delB_sub l x).mem hy), h.last0, h.last1, fun y hy => h.lie y ((delB_sub l x).mem hy), h.once.sublist ((delB_sub l x).map _), h.apart.sublist ((delB_sub l x).map _)⟩
theorem rows_one {fr hn last : Int} {l : List (Nat × Int × Int)} (h : HOk fr hn last l) {d : List (Int × Int)} (hp : d.Perm (l.map (·.2))) (hs : d.Pairwise fun x y => x.1 ≤ y.1) : d = rowsOf l := by
 have ha : (rowsOf l).Pairwise Apart := (rowsOf_perm l).symm.pairwise h.apart (fun h => h.symm)
 have hlie : ∀ x ∈ rowsOf l, 1 ≤ x.2 := fun x hx => by
  obtain ⟨y, hy, rfl⟩ := List.mem_map.1 ((rowsOf_perm l).mem_iff.1 hx)
  exact (h.lie y hy).2.1
 have hpp : d.Perm (rowsOf l) := hp.trans (rowsOf_perm l).symm
 have hda : d.Pairwise Apart := hpp.symm.pairwise ha (fun h => h.symm)
 have c1 := rows_chain hs hda (fun x hx => hlie x (hpp.mem_iff.1 hx))
 have c2 := rows_chain (rowsOf_sorted l) ha hlie
 exact hpp.eq_of_pairwise (le := fun x y => x.1 + x.2 ≤ y.1) (fun a b ha hb h1 h2 => by
  have e1 := hlie a (hpp.mem_iff.1 ha)
  have e2 := hlie b hb
  omega) c1 c2
theorem findB_mem {l : List (Nat × Int × Int)} {x : Nat} {a n : Int} (h : findB l x = some (a, n)) : (x, a, n) ∈ l := by
 unfold findB at h
 cases hf : l.find? (fun y => y.1 == x) with
 | none => rw [hf] at h; cases h
 | some y =>
   rw [hf] at h
   simp only [Option.map_some, Option.some.injEq] at h
   have h1 := List.mem_of_find?_eq_some hf
   have h2 := List.find?_some hf
   simp only [beq_iff_eq] at h2
   rw [← h, ← h2]
   exact h1
theorem findB_new {fr hn last : Int} {l : List (Nat × Int × Int)} (h : HOk fr hn last l) {x : Nat} (hx : last < x) : findB l x = none := by
 cases hf : findB l x with
 | none => rfl
 | some y =>
   have := h.num _ (findB_mem (a := y.1) (n := y.2) hf)
   simp only at this
   omega
end Go.Proofs.YtabenhpjgjjgnaaGreatDoor
/- A heap's look-up of a block. -/
namespace Go.Proofs.YtabenhpjgjjgnaaGreatDoor
open Go.RowKit
set_option maxRecDepth 100000
attribute [local go_sem ↓] Go.wp_at_zero Go.wp_at_succ
theorem HpAt.c {K : MK} {S : St} {W : World} (h : HpAt K S W) : W.cell? ⟨K.bh, 0, none⟩ = some (.int .i64 K.high) ∧ W.cell? ⟨K.bh, 1, none⟩ = some (.int .i64 K.hn) ∧ W.cell? ⟨K.bh, 2, none⟩ = some (.int .i64 S.last) ∧ W.cell? ⟨K.bh, 3, none⟩ = some (.map (some K.bq)) :=
 ⟨(h.box.cell 0).trans rfl, (h.box.cell 1).trans rfl, (h.box.cell 2).trans rfl, (h.box.cell 3).trans rfl⟩
theorem HpAt.grow {K : MK} {S : St} {W W' : World} (h : HpAt K S W) (hb : Below W.heap.size W W') : HpAt K S W' := h.later rfl rfl (hb.block _ h.box.lt) (hb.block _ h.map.lt)
theorem eql_map (q : Nat) (w : World) : Sem.run Tryz.prog (binOp .eql 122 (.map (some q)) (.map none)) w = .ok (.bool false) w := by kernel_rfl
theorem hnone_any (K : MK) (S : St) (W : World) (h : HpAt K S W) : Calls Tryz.prog 117 #[.pointer (some ⟨K.bh, 0, none⟩)] W (fun e w' => e = .returned (.bool false) ∧ W = w') := by
 obtain ⟨_, _, _, c3⟩ := h.c
 have he := eql_map K.bq
 clear h
 go_enter Tryz.func117, Tryz.ntmps117
 go_wp2_with fail
 go_ret
 exact ⟨rfl, rfl⟩
theorem block_zero (w : World) : (zeroValue 176).run Tryz.prog w = .ok (.agg #[.int .i64 0, .int .i64 0]) w := by kernel_rfl
def atM (l : List (Nat × Int × Int)) (x : Nat) : Int × Int × Int := match findB l x with
 | some (a, n) => (a, n, 0)
 | none => (0, 0, 3)
def HAtEnd (W : World) (r : Int × Int × Int) (e : Ending) (w' : World) : Prop := e = .returned (.tuple #[.int .i64 r.1, .int .i64 r.2.1, .int .i64 r.2.2]) ∧ Below W.heap.size W w'
theorem hat_any (K : MK) (S : St) (x : Nat) (W : World) (h : HpAt K S W) : Calls Tryz.prog 213 #[.pointer (some ⟨K.bh, 0, none⟩), .int .u16 (x : Nat)] W (HAtEnd W (atM S.blocks x)) := by
 have HN := Lib.hid (hnone_any K S W h)
 have H := Lib.hid h
 obtain ⟨_, _, _, c3⟩ := h.c
 have hlt := h.box.lt
 clear h
 cases hf : findB S.blocks x with
 | none =>
   have HX := Lib.hid (show atM S.blocks x = (0, 0, 3) by unfold atM; rw [hf])
   have L := bl_miss (P := Tryz.prog) (mty := 122) Tryz.underlying122 Tryz.underlying50 block_zero H.out.map x hf
   clear hf
   go_enter Tryz.func213, Tryz.ntmps213
   go_wp2_with fail
   refine (HN.out).mono ?_
   rintro e w1 ⟨rfl, rfl⟩
   go_wp2_with fail
   go_ret3
   rw [HX.out]
   exact ⟨rfl, alloc_below _ _⟩
 | some r =>
   obtain ⟨a, n⟩ := r
   have HX := Lib.hid (show atM S.blocks x = (a, n, 0) by unfold atM; rw [hf])
   have L := bl_look (P := Tryz.prog) (mty := 122) Tryz.underlying122 Tryz.underlying50 H.out.map x hf
   clear hf
   go_enter Tryz.func213, Tryz.ntmps213
   go_wp2_with fail
   refine (HN.out).mono ?_
   rintro e w1 ⟨rfl, rfl⟩
   go_wp2_with fail
   refine wp_region_grow (by kernel_rfl) (by kernel_rfl) ?_
   have HB := Lib.hid (alloc_below W (.cells #[.int .i64 a, .int .i64 n] 176))
   have HX2 := Lib.hid (Bx.new W #[.int .i64 a, .int .i64 n] 176)
   generalize W.alloc (.cells #[.int .i64 a, .int .i64 n] 176) = w1 at *
   have x0 : w1.cell? ⟨W.heap.size, 0, none⟩ = some (.int .i64 a) := (HX2.out.cell 0).trans rfl
   have x1 : w1.cell? ⟨W.heap.size, 1, none⟩ = some (.int .i64 n) := (HX2.out.cell 1).trans rfl
   have xl := HX2.out.lt
   repeat (first | go_big_quiet_step (fail))
   refine wpQuiet_nil ?_
   rintro _ ⟨gx, rfl⟩
   go_wp2_with fail
   go_ret3
   rw [HX.out]
   exact ⟨rfl, HB.out.trans ((growN_below w1 gx).mono HB.out.size)⟩
def blockM (l : List (Nat × Int × Int)) (x : Nat) : Int × Nat := if x = 0 then (0, 5) else if (atM l x).2.2 = 0 then ((atM l x).1, 0) else (0, 6)
def BlockEnd (W : World) (r : Int × Nat) (e : Ending) (w' : World) : Prop := e = .returned (.tuple #[.int .i64 r.1, .int .u8 (r.2 : Nat)]) ∧ Below W.heap.size W w'
theorem block_any (K : MK) (S : St) (x : Nat) (W : World) (h : At K S W) : Calls Tryz.prog 141 #[.pointer (some ⟨K.b, 0, none⟩), .int .u16 (x : Nat)] W (BlockEnd W (blockM S.blocks x)) := by
 have HC := Lib.hid (hat_any K S x W h.hp)
 have HR := Lib.hid (show blockM S.blocks x = if x = 0 then (0, 5) else if (atM S.blocks x).2.2 = 0 then ((atM S.blocks x).1, 0) else (0, 6) from rfl)
 have c4 := h.c4
 have hlt := h.lt
 clear h
 generalize atM S.blocks x = r at *
 obtain ⟨a, n, er⟩ := r
 go_enter Tryz.func141, Tryz.ntmps141
 go_wp2_with fail
 refine (HC.out).mono ?_
 rintro e w1 ⟨rfl, hb⟩
 have HB := Lib.hid hb
 clear hb HC c4 hlt
 dsimp only
 by_cases hx : x = 0
 ·subst hx
  have HX := Lib.hid (show blockM S.blocks 0 = (0, 5) by rw [HR.out, if_pos rfl])
  clear HR
  go_wp2_with fail
  go_ret2
  rw [HX.out]
  exact ⟨rfl, HB.out⟩
 ·have d := beq_eq_false_iff_ne.2 (show (x : Int) ≠ 0 by omega)
  by_cases he : er = 0
  ·subst he
   have HX := Lib.hid (show blockM S.blocks x = (a, 0) by rw [HR.out, if_neg hx, if_pos rfl])
   clear HR hx
   go_wp2_with fail
   go_ret2
   rw [HX.out]
   exact ⟨rfl, HB.out⟩
  ·have d2 := bne_iff_ne.2 he
   have HX := Lib.hid (show blockM S.blocks x = (0, 6) by rw [HR.out, if_neg hx, if_neg he])
   clear HR hx he
   go_wp2_with fail
   go_ret2
   rw [HX.out]
   exact ⟨rfl, HB.out⟩
end Go.Proofs.YtabenhpjgjjgnaaGreatDoor
