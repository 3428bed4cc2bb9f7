/- A machine's address, stores, conv, si. A machine's trap. A machine's stores. A machine's si. A machine's ixop. Whether a word lies within two bounds. An instruction's bounds, and what stays within them. A machine's ix. A machine's ranges. A machine's frame so many levels out. Condition: what lies in memory can lie there; what each theorem says. -/
import Derived.Test.YtabenhpjgjjgnaaGreatDoorBau
import Derived.Test.YtabenhpjgjjgnaaGreatDoorBab
import Derived.Deep.RegionHeld3
/- A machine's address, stores, conv, si. -/
namespace Go.Proofs.YtabenhpjgjjgnaaGreatDoor
open Go.RowKit
set_option maxRecDepth 100000
attribute [local go_sem ↓] Go.wp_at_zero Go.wp_at_succ
def addressM (K : MK) (n : Int) (S : St) : St × Nat := if 65535 < n then (S, 15) else pushM K (w16 n) S
theorem address_any (K : MK) (k : KOk K) (S : St) (s : SOk K S) (n : Int) (W : World) (h : At K S W) : Calls Tryz.prog 70 #[.pointer (some ⟨K.b, 0, none⟩), .int .i64 n] W (OpEnd K W (addressM K n S)) := by
 have H := Lib.hid h
 clear h
 by_cases hn : 65535 < n
 ·have HR := Lib.hid (show addressM K n S = (S, 15) by unfold addressM; rw [if_pos hn])
  have d0 := decide_eq_true hn
  go_enter Tryz.func70, Tryz.ntmps70
  go_wp2_with fail
  go_ret
  rw [HR.out]
  exact ⟨rfl, H.out, Only.refl _ _⟩
 ·have HR := Lib.hid (show addressM K n S = pushM K (w16 n) S by unfold addressM; rw [if_neg hn])
  have hx := w16_lt n
  have HC := Lib.hid (w16_cast n)
  have hn' : n ≤ 65535 := by omega
  clear hn
  go_enter Tryz.func70, Tryz.ntmps70
  go_wp2_with fail
  rw [HC.out]
  refine (push_any K k S s (w16 n) hx W H.out).mono ?_
  rintro e w1 ⟨rfl, h1, ho1⟩
  go_wp2_with fail
  go_ret
  rw [HR.out]
  exact ⟨rfl, h1, ho1⟩
def convR (K : MK) (r : St × List Nat × Nat) : St × Nat := if r.2.2 ≠ 0 then (r.1, r.2.2) else if 32767 < r.2.1.getD 0 0 then (r.1, 2) else pushM K (r.2.1.getD 0 0) r.1
def convM (K : MK) (S : St) : St × Nat := convR K (popsM K 1 S)
theorem conv_any' (K : MK) (k : KOk K) (S : St) (s : SOk K S) (W : World) (h : At K S W) : Calls Tryz.prog 79 #[.pointer (some ⟨K.b, 0, none⟩)] W (OpEnd K W (convM K S)) := by
 have HS := Lib.hid (popsM_ok s 1)
 have HP := Lib.hid (show convM K S = convR K (popsM K 1 S) from rfl)
 have hlen := popsM_len K 1 S
 have HC := Lib.hid (pops_any K k S s 1 (by omega) W h)
 clear h
 go_enter Tryz.func79, Tryz.ntmps79
 go_wp2_with fail
 refine (HC.out).mono ?_
 rintro e w1 ⟨A, c, rfl, hW, hA, ho⟩
 generalize popsM K 1 S = r at *
 obtain ⟨S1, l, t⟩ := r
 simp only at hlen hW hA HS
 have HA := Lib.hid hA
 have HO := Lib.hid ho
 obtain ⟨b, o, rfl, hc⟩ := word_cells hW (by omega)
 clear hA ho hW HC
 rw [hlen]
 dsimp only
 by_cases ht : t = 0
 ·subst ht
  obtain ⟨hc0, hr0⟩ := hc 0 (by omega)
  simp only [Nat.add_zero] at hc0
  have hlt : b < w1.heap.size := lt_of_cell hc0
  have HX := Lib.hid (show convM K S = if 32767 < l.getD 0 0 then (S1, 2) else pushM K (l.getD 0 0) S1 by rw [HP.out, convR, if_neg (by simp)])
  generalize l.getD 0 0 = x0 at *
  clear hc hlen HP
  by_cases hq : 32767 < x0
  ·have HR := Lib.hid (show convM K S = (S1, 2) by rw [HX.out, if_pos hq])
   have d0 : decide ((32767 : Int) < (x0 : Int)) = true := decide_eq_true (by omega)
   go_wp2_with fail
   go_ret
   rw [HR.out]
   exact ⟨rfl, HA.out, HO.out⟩
  ·have HR := Lib.hid (show convM K S = pushM K x0 S1 by rw [HX.out, if_neg hq])
   have hq' : (x0 : Int) ≤ 32767 := by omega
   have d0 : decide ((32767 : Int) < (x0 : Int)) = false := decide_eq_false (by omega)
   clear hq
   go_wp2_with fail
   refine (push_any K k S1 HS.out x0 hr0 _ HA.out).mono ?_
   rintro e w2 ⟨rfl, h2, ho2⟩
   go_wp2_with fail
   go_ret
   rw [HR.out]
   exact ⟨rfl, h2, HO.out.trans ho2⟩
 ·have d := bne_iff_ne.2 (show (t : Int) ≠ 0 by omega)
  have HR := Lib.hid (show convM K S = (S1, t) by rw [HP.out, convR, if_pos (by simpa using ht)])
  go_wp2_with fail
  go_ret
  rw [HR.out]
  exact ⟨rfl, HA.out, HO.out⟩
end Go.Proofs.YtabenhpjgjjgnaaGreatDoor
/- A machine's trap. -/
namespace Go.Proofs.YtabenhpjgjjgnaaGreatDoor
open Go.RowKit
set_option maxRecDepth 100000
attribute [local go_sem ↓] Go.wp_at_zero Go.wp_at_succ
def w8 (x : Int) : Nat := (x % 256).toNat
theorem w8_cast (x : Int) : IntKind.u8.wrap x = ((w8 x : Nat) : Int) := by rw [IntKind.wrap_u8]; unfold w8; omega
def trapM (S : St) : St × Nat := (S, if 1 ≤ w8 (S.args.getD 0 0) ∧ w8 (S.args.getD 0 0) ≤ 15 then w8 (S.args.getD 0 0) else 12)
theorem trap_any (K : MK) (S : St) (ha : 0 < S.args.length) (W : World) (h : At K S W) : Calls Tryz.prog 101 #[.pointer (some ⟨K.b, 0, none⟩)] W (OpEnd K W (trapM S)) := by
 have H := Lib.hid h
 have hlt := h.lt
 obtain ⟨ab, ao, ac, c16, hab, a0c⟩ := h.arg (j := 0) ha
 simp only [Nat.add_zero] at a0c
 have HR0 := Lib.hid (show trapM S = (S, if 1 ≤ w8 (S.args.getD 0 0) ∧ w8 (S.args.getD 0 0) ≤ 15 then w8 (S.args.getD 0 0) else 12) from rfl)
 clear h
 generalize S.args.getD 0 0 = q at *
 have e1 := w8_cast q
 generalize w8 q = y at *
 by_cases h1 : 1 ≤ y
 ·have i1 : (1 : Int) ≤ (y : Int) := by omega
  have d1 : decide ((1 : Int) ≤ (y : Int)) = true := decide_eq_true i1
  by_cases h2 : y ≤ 15
  ·have HR := Lib.hid (show trapM S = (S, y) by rw [HR0.out, if_pos ⟨h1, h2⟩])
   have i2 : (y : Int) ≤ 15 := by omega
   have d2 : decide ((y : Int) ≤ (15 : Int)) = true := decide_eq_true i2
   go_enter Tryz.func101, Tryz.ntmps101
   go_wp2_with fail
   go_ret
   rw [HR.out]
   exact ⟨rfl, H.out, Only.refl _ _⟩
  ·have HR := Lib.hid (show trapM S = (S, 12) by rw [HR0.out, if_neg (by omega)])
   have d2 : decide ((y : Int) ≤ (15 : Int)) = false := decide_eq_false (by omega)
   go_enter Tryz.func101, Tryz.ntmps101
   go_wp2_with fail
   go_ret
   rw [HR.out]
   exact ⟨rfl, H.out, Only.refl _ _⟩
 ·have HR := Lib.hid (show trapM S = (S, 12) by rw [HR0.out, if_neg (by omega)])
  have d1 : decide ((1 : Int) ≤ (y : Int)) = false := decide_eq_false (by omega)
  go_enter Tryz.func101, Tryz.ntmps101
  go_wp2_with fail
  go_ret
  rw [HR.out]
  exact ⟨rfl, H.out, Only.refl _ _⟩
end Go.Proofs.YtabenhpjgjjgnaaGreatDoor
/- A machine's stores. -/
namespace Go.Proofs.YtabenhpjgjjgnaaGreatDoor
open Go.RowKit
set_option maxRecDepth 100000
attribute [local go_sem ↓] Go.wp_at_zero Go.wp_at_succ
def putM (K : MK) (at_ : Int) (x : Nat) (S : St) : St × Nat := ({ S with ws := storeM K.n S.ws at_ x }, if inM K.n at_ then 0 else 15)
def storesR (K : MK) (at_ : Int) (r : St × List Nat × Nat) : St × Nat := if r.2.2 ≠ 0 then (r.1, r.2.2) else putM K at_ (r.2.1.getD 0 0) r.1
def storesM (K : MK) (at_ : Int) (S : St) : St × Nat := storesR K at_ (popsM K 1 S)
theorem stores_any (K : MK) (k : KOk K) (S : St) (s : SOk K S) (at_ : Int) (W : World) (h : At K S W) : Calls Tryz.prog 69 #[.pointer (some ⟨K.b, 0, none⟩), .int .i64 at_] W (OpEnd K W (storesM K at_ S)) := by
 have HK := Lib.hid k
 have HP := Lib.hid (show storesM K at_ S = storesR K at_ (popsM K 1 S) from rfl)
 have hlen := popsM_len K 1 S
 have HC := Lib.hid (pops_any K k S s 1 (by omega) W h)
 clear h k s
 go_enter Tryz.func69, Tryz.ntmps69
 go_wp2_with fail
 refine (HC.out).mono ?_
 rintro e w1 ⟨A, c, rfl, hW, hA, ho⟩
 generalize popsM K 1 S = r at *
 obtain ⟨S1, l, t⟩ := r
 simp only at hlen hW hA
 have HA := Lib.hid hA
 have HO := Lib.hid ho
 obtain ⟨b, o, rfl, hc⟩ := word_cells hW (by omega)
 clear hA ho hW HC
 rw [hlen]
 dsimp only
 by_cases ht : t = 0
 ·subst ht
  have HX := Lib.hid (show storesM K at_ S = putM K at_ (l.getD 0 0) S1 by rw [HP.out, storesR, if_neg (by simp)])
  obtain ⟨hc0, hr0⟩ := hc 0 (by omega)
  simp only [Nat.add_zero] at hc0
  have HC0 := Lib.hid hc0
  generalize l.getD 0 0 = x0 at *
  have HR0 := Lib.hid hr0
  clear hc hlen HP hr0 hc0
  go_wp2_with fail
  refine wp_region_tail 8 (by kernel_rfl) (by kernel_rfl) ?_
  have hlt := lt_of_cell HC0.out
  have hcd := ((drew_below w1).cell (p := ⟨b, o, none⟩) hlt).trans HC0.out
  have H2 := Lib.hid (HA.out.grow (drew_below w1))
  have HO2 := Lib.hid (HO.out.trans (Only.of_below (drew_below w1)))
  clear HA HO HC0 hlt
  generalize w1.drew = w2 at *
  have m2 := H2.out.c3
  have hmlt := H2.out.lt
  simp only [List.take_succ_cons, List.take_zero, List.drop_succ_cons, List.drop_zero]
  repeat still_step
  refine wpStill_nil ?_
  go_wp2_with fail
  refine (store_any K.bs K.bm K.n HK.out.hm S1.ws at_ x0 HR0.out w2 H2.out.mem).mono ?_
  rintro e w3 ⟨rfl, hm3, ho3, hf3⟩
  have H3 := Lib.hid (H2.out.setMem HK.out hm3 ho3 hf3)
  have HO3 := Lib.hid (HO2.out.trans ho3)
  clear hm3 ho3 hf3 H2 HO2 m2 hcd
  cases hi : inM K.n at_
  ·have HR := Lib.hid (show storesM K at_ S = ({ S1 with ws := storeM K.n S1.ws at_ x0 }, 15) by rw [HX.out, putM, hi]; rfl)
   go_wp2_with fail
   go_ret
   rw [HR.out]
   exact ⟨rfl, H3.out, HO3.out⟩
  ·have HR := Lib.hid (show storesM K at_ S = ({ S1 with ws := storeM K.n S1.ws at_ x0 }, 0) by rw [HX.out, putM, hi]; rfl)
   go_wp2_with fail
   go_ret
   rw [HR.out]
   exact ⟨rfl, H3.out, HO3.out⟩
 ·have d := bne_iff_ne.2 (show (t : Int) ≠ 0 by omega)
  have HR := Lib.hid (show storesM K at_ S = (S1, t) by rw [HP.out, storesR, if_pos (by simpa using ht)])
  go_wp2_with fail
  go_ret
  rw [HR.out]
  exact ⟨rfl, HA.out, HO.out⟩
end Go.Proofs.YtabenhpjgjjgnaaGreatDoor
/- A machine's si. -/
namespace Go.Proofs.YtabenhpjgjjgnaaGreatDoor
open Go.RowKit
set_option maxRecDepth 100000
attribute [local go_sem ↓] Go.wp_at_zero Go.wp_at_succ
theorem popsM_args (K : MK) (n : Nat) (S : St) : (popsM K n S).1.args = S.args := by unfold popsM; split <;> rfl
def siPut (K : MK) (at_ : Int) (x : Nat) (S : St) : St × Nat := ({ S with ws := storeM K.n S.ws at_ x }, if inM K.n at_ then 0 else 15)
def siR (K : MK) (r : St × List Nat × Nat) : St × Nat := if r.2.2 ≠ 0 then (r.1, r.2.2) else siPut K (r.2.1.getD 0 0 + r.1.args.getD 0 0) (r.2.1.getD 1 0) r.1
def siM (K : MK) (S : St) : St × Nat := siR K (popsM K 2 S)
theorem si_any (K : MK) (k : KOk K) (S : St) (s : SOk K S) (ha : 0 < S.args.length) (hq0 : -1000000 ≤ S.args.getD 0 0) (hq1 : S.args.getD 0 0 ≤ 1000000) (W : World) (h : At K S W) : Calls Tryz.prog 73 #[.pointer (some ⟨K.b, 0, none⟩)] W (OpEnd K W (siM K S)) := by
 have HK := Lib.hid k
 have HP := Lib.hid (show siM K S = siR K (popsM K 2 S) from rfl)
 have hlen := popsM_len K 2 S
 have harg := popsM_args K 2 S
 have HC := Lib.hid (pops_any K k S s 2 (by omega) W h)
 clear h k s
 go_enter Tryz.func73, Tryz.ntmps73
 go_wp2_with fail
 refine (HC.out).mono ?_
 rintro e w1 ⟨A, c, rfl, hW, hA, ho⟩
 generalize popsM K 2 S = r at *
 obtain ⟨S1, l, t⟩ := r
 simp only at hlen hW hA harg
 rw [← harg] at ha hq0 hq1
 have HA := Lib.hid hA
 have HO := Lib.hid ho
 obtain ⟨b, o, rfl, hc⟩ := word_cells hW (by omega)
 clear hA ho hW HC harg
 rw [hlen]
 dsimp only
 by_cases ht : t = 0
 ·subst ht
  have HX := Lib.hid (show siM K S = siPut K (l.getD 0 0 + S1.args.getD 0 0) (l.getD 1 0) S1 by rw [HP.out, siR, if_neg (by simp)])
  obtain ⟨hc0, hr0⟩ := hc 0 (by omega)
  obtain ⟨hc1, hr1⟩ := hc 1 (by omega)
  simp only [Nat.add_zero] at hc0
  have HC0 := Lib.hid hc0
  have HC1 := Lib.hid hc1
  have HAL := Lib.hid ha
  generalize l.getD 0 0 = x0 at *
  generalize l.getD 1 0 = x1 at *
  have HR1 := Lib.hid hr1
  clear hc hlen HP hr1 hc0 hc1 ha
  go_wp2_with fail
  refine wp_region_tail 18 (by kernel_rfl) (by kernel_rfl) ?_
  have hlt := lt_of_cell HC0.out
  have hcd0 := ((drew_below w1).cell (p := ⟨b, o, none⟩) hlt).trans HC0.out
  have hcd1 := ((drew_below w1).cell (p := ⟨b, o + 1, none⟩) hlt).trans HC1.out
  have H2 := Lib.hid (HA.out.grow (drew_below w1))
  have HO2 := Lib.hid (HO.out.trans (Only.of_below (drew_below w1)))
  clear HA HO HC0 HC1 hlt
  generalize w1.drew = w2 at *
  have m2 := H2.out.c3
  have hmlt := H2.out.lt
  obtain ⟨ab, ao, ac, c16, hab, a0c⟩ := H2.out.arg (j := 0) HAL.out
  simp only [Nat.add_zero] at a0c
  have hal : 0 < S1.args.length := HAL.out
  generalize S1.args.getD 0 0 = q at *
  simp only [List.take_succ_cons, List.take_zero, List.drop_succ_cons, List.drop_zero]
  repeat still_step
  refine wpStill_nil ?_
  go_wp2_with fail
  refine (store_any K.bs K.bm K.n HK.out.hm S1.ws (x0 + q) x1 HR1.out w2 H2.out.mem).mono ?_
  rintro e w3 ⟨rfl, hm3, ho3, hf3⟩
  have H3 := Lib.hid (H2.out.setMem HK.out hm3 ho3 hf3)
  have HO3 := Lib.hid (HO2.out.trans ho3)
  clear hm3 ho3 hf3 H2 HO2 m2 hcd0 hcd1 c16 hab a0c hal
  cases hi : inM K.n (x0 + q)
  ·have HR := Lib.hid (show siM K S = ({ S1 with ws := storeM K.n S1.ws (x0 + q) x1 }, 15) by rw [HX.out, siPut, hi]; rfl)
   go_wp2_with fail
   go_ret
   rw [HR.out]
   exact ⟨rfl, H3.out, HO3.out⟩
  ·have HR := Lib.hid (show siM K S = ({ S1 with ws := storeM K.n S1.ws (x0 + q) x1 }, 0) by rw [HX.out, siPut, hi]; rfl)
   go_wp2_with fail
   go_ret
   rw [HR.out]
   exact ⟨rfl, H3.out, HO3.out⟩
 ·have d := bne_iff_ne.2 (show (t : Int) ≠ 0 by omega)
  have HR := Lib.hid (show siM K S = (S1, t) by rw [HP.out, siR, if_pos (by simpa using ht)])
  go_wp2_with fail
  go_ret
  rw [HR.out]
  exact ⟨rfl, HA.out, HO.out⟩
end Go.Proofs.YtabenhpjgjjgnaaGreatDoor
/- A machine's ixop. -/
namespace Go.Proofs.YtabenhpjgjjgnaaGreatDoor
open Go.RowKit
set_option maxRecDepth 100000
attribute [local go_sem ↓] Go.wp_at_zero Go.wp_at_succ
theorem mul_ends {x : Nat} {q : Int} (hx : x < 65536) (h0 : -1000000 ≤ q) (h1 : q ≤ 1000000) : -65536000000 ≤ (x : Int) * q ∧ (x : Int) * q ≤ 65536000000 := by
 have a : (x : Int) * q ≤ (x : Int) * 1000000 := Int.mul_le_mul_of_nonneg_left h1 (by omega)
 have b : (x : Int) * (-1000000) ≤ (x : Int) * q := Int.mul_le_mul_of_nonneg_left h0 (by omega)
 omega
def ixopL (K : MK) (x0 x1 x2 : Nat) (S : St) : St × Nat := if x1 < x2 then (S, 3) else addressM K (x0 + (x2 : Int) * S.args.getD 0 0) S
def ixopR (K : MK) (r : St × List Nat × Nat) : St × Nat := if r.2.2 ≠ 0 then (r.1, r.2.2) else ixopL K (r.2.1.getD 0 0) (r.2.1.getD 1 0) (r.2.1.getD 2 0) r.1
def ixopM (K : MK) (S : St) : St × Nat := ixopR K (popsM K 3 S)
set_option maxHeartbeats 1000000 in
theorem ixop_any (K : MK) (k : KOk K) (S : St) (s : SOk K S) (ha : 0 < S.args.length) (hq0 : -1000000 ≤ S.args.getD 0 0) (hq1 : S.args.getD 0 0 ≤ 1000000) (W : World) (h : At K S W) : Calls Tryz.prog 77 #[.pointer (some ⟨K.b, 0, none⟩)] W (OpEnd K W (ixopM K S)) := by
 have HK := Lib.hid k
 have HS := Lib.hid (popsM_ok s 3)
 have HP := Lib.hid (show ixopM K S = ixopR K (popsM K 3 S) from rfl)
 have hlen := popsM_len K 3 S
 have harg := popsM_args K 3 S
 have HC := Lib.hid (pops_any K k S s 3 (by omega) W h)
 clear h k s
 go_enter Tryz.func77, Tryz.ntmps77
 go_wp2_with fail
 refine (HC.out).mono ?_
 rintro e w1 ⟨A, c, rfl, hW, hA, ho⟩
 generalize popsM K 3 S = r at *
 obtain ⟨S1, l, t⟩ := r
 simp only at hlen hW hA harg HS
 rw [← harg] at ha hq0 hq1
 have HA := Lib.hid hA
 have HO := Lib.hid ho
 obtain ⟨b, o, rfl, hc⟩ := word_cells hW (by omega)
 clear hA ho hW HC harg
 rw [hlen]
 dsimp only
 by_cases ht : t = 0
 ·subst ht
  have HX := Lib.hid (show ixopM K S = ixopL K (l.getD 0 0) (l.getD 1 0) (l.getD 2 0) S1 by rw [HP.out, ixopR, if_neg (by simp)])
  obtain ⟨hc0, hr0⟩ := hc 0 (by omega)
  obtain ⟨hc1, hr1⟩ := hc 1 (by omega)
  obtain ⟨hc2, hr2⟩ := hc 2 (by omega)
  simp only [Nat.add_zero] at hc0
  have HC0 := Lib.hid hc0
  have HC1 := Lib.hid hc1
  have HC2 := Lib.hid hc2
  have HAL := Lib.hid ha
  generalize l.getD 0 0 = x0 at *
  generalize l.getD 1 0 = x1 at *
  generalize l.getD 2 0 = x2 at *
  clear hc hlen HP hc0 hc1 hc2 ha
  go_wp2_with fail
  refine wp_region_tail 7 (by kernel_rfl) (by kernel_rfl) ?_
  have hlt := lt_of_cell HC0.out
  have hcd1 := ((drew_below w1).cell (p := ⟨b, o + 1, none⟩) hlt).trans HC1.out
  have hcd2 := ((drew_below w1).cell (p := ⟨b, o + 2, none⟩) hlt).trans HC2.out
  have HC0 := Lib.hid (((drew_below w1).cell (p := ⟨b, o, none⟩) hlt).trans HC0.out)
  have H2 := Lib.hid (HA.out.grow (drew_below w1))
  have HO2 := Lib.hid (HO.out.trans (Only.of_below (drew_below w1)))
  clear HA HO HC1 HC2 hlt
  generalize w1.drew = w2 at *
  have HC1 := Lib.hid hcd1
  have HC2 := Lib.hid hcd2
  simp only [List.take_succ_cons, List.take_zero, List.drop_succ_cons, List.drop_zero]
  repeat still_step
  refine wpStill_nil ?_
  by_cases hx : x1 < x2
  ·have HR := Lib.hid (show ixopM K S = (S1, 3) by rw [HX.out, ixopL, if_pos hx])
   have d0 : decide (x1 < x2) = true := decide_eq_true hx
   go_wp2_with fail
   go_ret
   rw [HR.out]
   exact ⟨rfl, H2.out, HO2.out⟩
  ·have HR := Lib.hid (show ixopM K S = addressM K (x0 + (x2 : Int) * S1.args.getD 0 0) S1 by rw [HX.out, ixopL, if_neg hx])
   have hx2 : x2 ≤ x1 := by omega
   go_wp2_with fail
   refine wp_region_tail 17 (by kernel_rfl) (by kernel_rfl) ?_
   have hlt := lt_of_cell HC0.out
   clear hcd1 hcd2
   have hcd0 := ((drew_below w2).cell (p := ⟨b, o, none⟩) hlt).trans HC0.out
   have hcd2 := ((drew_below w2).cell (p := ⟨b, o + 2, none⟩) hlt).trans HC2.out
   have H3 := Lib.hid (H2.out.grow (drew_below w2))
   have HO3 := Lib.hid (HO2.out.trans (Only.of_below (drew_below w2)))
   clear H2 HO2 HC0 HC1 HC2 hlt
   generalize w2.drew = w3 at *
   have hmlt := H3.out.lt
   obtain ⟨ab, ao, ac, c16, hab, a0c⟩ := H3.out.arg (j := 0) HAL.out
   simp only [Nat.add_zero] at a0c
   have hal : 0 < S1.args.length := HAL.out
   generalize S1.args.getD 0 0 = q at *
   obtain ⟨hm0, hm1⟩ := mul_ends hr2 hq0 hq1
   simp only [List.take_succ_cons, List.take_zero, List.drop_succ_cons, List.drop_zero]
   repeat still_step
   refine wpStill_nil ?_
   go_wp2_with fail
   refine (address_any K HK.out S1 HS.out (x0 + (x2 : Int) * q) w3 H3.out).mono ?_
   rintro e w5 ⟨rfl, h5, ho5⟩
   go_wp2_with fail
   go_ret
   rw [HR.out]
   exact ⟨rfl, h5, HO3.out.trans ho5⟩
 ·have d := bne_iff_ne.2 (show (t : Int) ≠ 0 by omega)
  have HR := Lib.hid (show ixopM K S = (S1, t) by rw [HP.out, ixopR, if_pos (by simpa using ht)])
  go_wp2_with fail
  go_ret
  rw [HR.out]
  exact ⟨rfl, HA.out, HO.out⟩
end Go.Proofs.YtabenhpjgjjgnaaGreatDoor
/- Whether a word lies within two bounds. -/
namespace Go.Proofs.YtabenhpjgjjgnaaGreatDoor
open Go.RowKit
set_option maxRecDepth 100000
attribute [local go_sem ↓] Go.wp_at_zero Go.wp_at_succ
def inL (lo x hi : Int) : Bool := decide (lo ≤ x) && decide (x ≤ hi)
def withinM (s : Bool) (w lo hi : Nat) : Bool := if s then inL (sg lo) (sg w) (sg hi) else inL lo w hi
theorem within7_any (s : Bool) (w lo hi : Nat) (hw : w < 65536) (hl : lo < 65536) (hh : hi < 65536) (W : World) :
 Calls Tryz.prog 148 #[.bool s, .int .u16 w, .int .u16 lo, .int .u16 hi] W fun e w' => e = .returned (.bool (withinM s w lo hi)) ∧ W = w' := by
 cases s
 ·have HR := Lib.hid (show withinM false w lo hi = inL lo w hi from rfl)
  by_cases h1 : lo ≤ w
  ·by_cases h2 : w ≤ hi
   ·have HX := Lib.hid (show inL lo w hi = true by unfold inL; rw [decide_eq_true (by omega), decide_eq_true (by omega)]; rfl)
    go_enter Tryz.func148, Tryz.ntmps148
    go_wp2_with fail
    go_ret
    rw [HR.out, HX.out]
    exact ⟨rfl, rfl⟩
   ·have HX := Lib.hid (show inL lo w hi = false by unfold inL; rw [decide_eq_true (by omega), decide_eq_false (by omega)]; rfl)
    go_enter Tryz.func148, Tryz.ntmps148
    go_wp2_with fail
    go_ret
    rw [HR.out, HX.out]
    exact ⟨rfl, rfl⟩
  ·have HX := Lib.hid (show inL lo w hi = false by unfold inL; rw [decide_eq_false (by omega)]; rfl)
   go_enter Tryz.func148, Tryz.ntmps148
   go_wp2_with fail
   go_ret
   rw [HR.out, HX.out]
   exact ⟨rfl, rfl⟩
 ·have HR := Lib.hid (show withinM true w lo hi = inL (sg lo) (sg w) (sg hi) from rfl)
  have HL := Lib.hid (int_any lo hl W)
  have HW := Lib.hid (int_any w hw W)
  have HH := Lib.hid (int_any hi hh W)
  generalize sg lo = a at *
  generalize sg w = x at *
  generalize sg hi = c at *
  go_enter Tryz.func148, Tryz.ntmps148
  go_wp2_with fail
  refine (HL.out).mono ?_
  rintro e w1 ⟨rfl, rfl⟩
  go_wp2_with fail
  refine (HW.out).mono ?_
  rintro e w1 ⟨rfl, rfl⟩
  by_cases h1 : a ≤ x
  ·have d1 : decide (a ≤ x) = true := decide_eq_true h1
   go_wp2_with fail
   refine (HW.out).mono ?_
   rintro e w1 ⟨rfl, rfl⟩
   go_wp2_with fail
   refine (HH.out).mono ?_
   rintro e w1 ⟨rfl, rfl⟩
   by_cases h2 : x ≤ c
   ·have HX := Lib.hid (show inL a x c = true by unfold inL; rw [decide_eq_true h1, decide_eq_true h2]; rfl)
    have d2 : decide (x ≤ c) = true := decide_eq_true h2
    go_wp2_with fail
    go_ret
    rw [HR.out, HX.out]
    exact ⟨rfl, rfl⟩
   ·have HX := Lib.hid (show inL a x c = false by unfold inL; rw [decide_eq_true h1, decide_eq_false h2]; rfl)
    have d2 : decide (x ≤ c) = false := decide_eq_false h2
    go_wp2_with fail
    go_ret
    rw [HR.out, HX.out]
    exact ⟨rfl, rfl⟩
  ·have HX := Lib.hid (show inL a x c = false by unfold inL; rw [decide_eq_false h1]; rfl)
   have d1 : decide (a ≤ x) = false := decide_eq_false h1
   go_wp2_with fail
   go_ret
   rw [HR.out, HX.out]
   exact ⟨rfl, rfl⟩
end Go.Proofs.YtabenhpjgjjgnaaGreatDoor
/- An instruction's bounds, and what stays within them. -/
namespace Go.Proofs.YtabenhpjgjjgnaaGreatDoor
open Go.RowKit
set_option maxRecDepth 100000
attribute [local go_sem ↓] Go.wp_at_zero Go.wp_at_succ
def boundsM (S : St) (x : Nat) : Bool := withinM (S.args.getD 0 0 != 0) x (w16 (S.args.getD 1 0)) (w16 (S.args.getD 2 0))
theorem bounds_any (K : MK) (S : St) (ha : 2 < S.args.length) (x : Nat) (hx : x < 65536) (W : World) (h : At K S W) :
 Calls Tryz.prog 144 #[.pointer (some ⟨K.b, 0, none⟩), .int .u16 x] W fun e w' => e = .returned (.bool (boundsM S x)) ∧ Below W.heap.size W w' := by
 have HR := Lib.hid (show boundsM S x = withinM (S.args.getD 0 0 != 0) x (w16 (S.args.getD 1 0)) (w16 (S.args.getD 2 0)) from rfl)
 have H := Lib.hid (h.grow (drew_below W))
 have HB := Lib.hid (drew_below W)
 clear h
 go_enter Tryz.func144, Tryz.ntmps144
 go_wp2_with fail
 refine wp_region_tail 22 (by kernel_rfl) (by kernel_rfl) ?_
 generalize W.drew = w2 at *
 have hmlt := H.out.lt
 obtain ⟨ab, ao, A, c16, hab, a0c⟩ := H.out.arg (j := 0) (by omega)
 obtain ⟨ab', ao', A', c16', hab', a1c⟩ := H.out.arg (j := 1) (by omega)
 obtain ⟨ab2, ao2, A2, c162, hab2, a2c⟩ := H.out.arg (j := 2) (by omega)
 rw [c16] at c16' c162
 cases c16'
 cases c162
 simp only [Nat.add_zero] at a0c
 have hal0 : 0 < S.args.length := by omega
 have hal1 : (1 : Int) < (S.args.length : Int) := by omega
 have hal2 : (2 : Int) < (S.args.length : Int) := by omega
 generalize S.args.getD 0 0 = p at *
 generalize S.args.getD 1 0 = q at *
 generalize S.args.getD 2 0 = r at *
 have HC1 := Lib.hid (w16_cast q)
 have HC2 := Lib.hid (w16_cast r)
 have HW := Lib.hid (within7_any (p != 0) x (w16 q) (w16 r) hx (w16_lt q) (w16_lt r) w2)
 simp only [List.take_succ_cons, List.take_zero, List.drop_succ_cons, List.drop_zero]
 repeat still_step
 refine wpStill_nil ?_
 go_wp2_with fail
 rw [HC1.out, HC2.out]
 refine (HW.out).mono ?_
 rintro e w5 ⟨rfl, rfl⟩
 go_wp2_with fail
 go_ret
 rw [HR.out]
 exact ⟨rfl, HB.out⟩
end Go.Proofs.YtabenhpjgjjgnaaGreatDoor
/- A machine's ix. -/
namespace Go.Proofs.YtabenhpjgjjgnaaGreatDoor
open Go.RowKit
set_option maxRecDepth 100000
attribute [local go_sem ↓] Go.wp_at_zero Go.wp_at_succ
def ixL (K : MK) (x0 x1 : Nat) (S : St) : St × Nat := if boundsM S x1 then addressM K (x0 + (w16 (x1 - w16 (S.args.getD 1 0)) : Int) * S.args.getD 3 0) S else (S, 3)
def ixR (K : MK) (r : St × List Nat × Nat) : St × Nat := if r.2.2 ≠ 0 then (r.1, r.2.2) else ixL K (r.2.1.getD 0 0) (r.2.1.getD 1 0) r.1
def ixM (K : MK) (S : St) : St × Nat := ixR K (popsM K 2 S)
set_option maxHeartbeats 1000000 in
theorem ix_any (K : MK) (k : KOk K) (S : St) (s : SOk K S) (ha : 3 < S.args.length) (hq0 : -1000000 ≤ S.args.getD 3 0) (hq1 : S.args.getD 3 0 ≤ 1000000) (W : World) (h : At K S W) : Calls Tryz.prog 76 #[.pointer (some ⟨K.b, 0, none⟩)] W (OpEnd K W (ixM K S)) := by
 have HK := Lib.hid k
 have HS := Lib.hid (popsM_ok s 2)
 have HP := Lib.hid (show ixM K S = ixR K (popsM K 2 S) from rfl)
 have hlen := popsM_len K 2 S
 have harg := popsM_args K 2 S
 have HC := Lib.hid (pops_any K k S s 2 (by omega) W h)
 clear h k s
 go_enter Tryz.func76, Tryz.ntmps76
 go_wp2_with fail
 refine (HC.out).mono ?_
 rintro e w1 ⟨A, c, rfl, hW, hA, ho⟩
 generalize popsM K 2 S = r at *
 obtain ⟨S1, l, t⟩ := r
 simp only at hlen hW hA harg HS
 rw [← harg] at ha hq0 hq1
 have HA := Lib.hid hA
 have HO := Lib.hid ho
 obtain ⟨b, o, rfl, hc⟩ := word_cells hW (by omega)
 clear hA ho hW HC harg
 rw [hlen]
 dsimp only
 by_cases ht : t = 0
 ·subst ht
  have HX := Lib.hid (show ixM K S = ixL K (l.getD 0 0) (l.getD 1 0) S1 by rw [HP.out, ixR, if_neg (by simp)])
  obtain ⟨hc0, hr0⟩ := hc 0 (by omega)
  obtain ⟨hc1, hr1⟩ := hc 1 (by omega)
  simp only [Nat.add_zero] at hc0
  have hlt := lt_of_cell hc0
  have HC0 := Lib.hid hc0
  generalize l.getD 0 0 = x0 at *
  generalize l.getD 1 0 = x1 at *
  have HAL := Lib.hid ha
  have HBD := Lib.hid (fun W' (h' : At K S1 W') => bounds_any K S1 (by omega) x1 hr1 W' h')
  clear hc hlen HP hc0 ha
  go_wp2_with fail
  refine (HBD.out _ HA.out).mono ?_
  rintro e w2 ⟨rfl, hb2⟩
  have H2 := Lib.hid (HA.out.grow hb2)
  have HO2 := Lib.hid (HO.out.trans (Only.of_below hb2))
  have HC0 := Lib.hid ((hb2.cell (p := ⟨b, o, none⟩) hlt).trans HC0.out)
  have HC1 := Lib.hid ((hb2.cell (p := ⟨b, o + 1, none⟩) hlt).trans hc1)
  clear hb2 HA HO HBD hlt hc1
  cases hq : boundsM S1 x1
  ·have HR := Lib.hid (show ixM K S = (S1, 3) by rw [HX.out, ixL, hq]; rfl)
   go_wp2_with fail
   go_ret
   rw [HR.out]
   exact ⟨rfl, H2.out, HO2.out⟩
  ·have HR := Lib.hid (show ixM K S = addressM K (x0 + (w16 (x1 - w16 (S1.args.getD 1 0)) : Int) * S1.args.getD 3 0) S1 by rw [HX.out, ixL, hq]; rfl)
   clear hq HX
   go_wp2_with fail
   refine wp_region_tail 10 (by kernel_rfl) (by kernel_rfl) ?_
   have hcd1 := ((drew_below w2).cell (p := ⟨b, o + 1, none⟩) (lt_of_cell HC1.out)).trans HC1.out
   have HC0 := Lib.hid (((drew_below w2).cell (p := ⟨b, o, none⟩) (lt_of_cell HC0.out)).trans HC0.out)
   have H3 := Lib.hid (H2.out.grow (drew_below w2))
   have HO3 := Lib.hid (HO2.out.trans (Only.of_below (drew_below w2)))
   clear H2 HO2 HC1
   generalize w2.drew = w3 at *
   have hmlt := H3.out.lt
   obtain ⟨ab, ao, ac, c16, hab, a1c⟩ := H3.out.arg (j := 1) (by have := HAL.out; omega)
   have hal : (1 : Int) < (S1.args.length : Int) := by have := HAL.out; omega
   generalize S1.args.getD 1 0 = p at *
   simp only [List.take_succ_cons, List.take_zero, List.drop_succ_cons, List.drop_zero]
   repeat still_step
   refine wpStill_nil ?_
   rw [w16_cast p]
   have e1 := w16_cast ((x1 : Int) - (w16 p : Nat))
   have e2 := w16_lt ((x1 : Int) - (w16 p : Nat))
   generalize w16 ((x1 : Int) - (w16 p : Nat)) = y at *
   go_wp2_with fail
   refine wp_region_tail 14 (by kernel_rfl) (by kernel_rfl) ?_
   have hcd0 := ((drew_below w3).cell (p := ⟨b, o, none⟩) (lt_of_cell HC0.out)).trans HC0.out
   have H4 := Lib.hid (H3.out.grow (drew_below w3))
   have HO4 := Lib.hid (HO3.out.trans (Only.of_below (drew_below w3)))
   clear H3 HO3 HC0 c16 hab a1c hcd1 hmlt e1
   generalize w3.drew = w4 at *
   have hmlt := H4.out.lt
   obtain ⟨ab, ao, ac, c16, hab, a3c⟩ := H4.out.arg (j := 3) HAL.out
   have hal3 : (3 : Int) < (S1.args.length : Int) := by have := HAL.out; omega
   generalize S1.args.getD 3 0 = q at *
   obtain ⟨hm0, hm1⟩ := mul_ends e2 hq0 hq1
   simp only [List.take_succ_cons, List.take_zero, List.drop_succ_cons, List.drop_zero]
   repeat still_step
   refine wpStill_nil ?_
   go_wp2_with fail
   refine (address_any K HK.out S1 HS.out (x0 + (y : Int) * q) w4 H4.out).mono ?_
   rintro e w5 ⟨rfl, h5, ho5⟩
   go_wp2_with fail
   go_ret
   rw [HR.out]
   exact ⟨rfl, h5, HO4.out.trans ho5⟩
 ·have d := bne_iff_ne.2 (show (t : Int) ≠ 0 by omega)
  have HR := Lib.hid (show ixM K S = (S1, t) by rw [HP.out, ixR, if_pos (by simpa using ht)])
  go_wp2_with fail
  go_ret
  rw [HR.out]
  exact ⟨rfl, HA.out, HO.out⟩
end Go.Proofs.YtabenhpjgjjgnaaGreatDoor
/- A machine's ranges. -/
namespace Go.Proofs.YtabenhpjgjjgnaaGreatDoor
open Go.RowKit
set_option maxRecDepth 100000
attribute [local go_sem ↓] Go.wp_at_zero Go.wp_at_succ
def rangesR (K : MK) (r : St × List Nat × Nat) : St × Nat := if r.2.2 ≠ 0 then (r.1, r.2.2) else if boundsM r.1 (r.2.1.getD 0 0) then pushM K (r.2.1.getD 0 0) r.1 else (r.1, 2)
def rangesM (K : MK) (S : St) : St × Nat := rangesR K (popsM K 1 S)
theorem ranges_any (K : MK) (k : KOk K) (S : St) (s : SOk K S) (ha : 2 < S.args.length) (W : World) (h : At K S W) : Calls Tryz.prog 78 #[.pointer (some ⟨K.b, 0, none⟩)] W (OpEnd K W (rangesM K S)) := by
 have HS := Lib.hid (popsM_ok s 1)
 have HP := Lib.hid (show rangesM K S = rangesR K (popsM K 1 S) from rfl)
 have hlen := popsM_len K 1 S
 have harg := popsM_args K 1 S
 have HC := Lib.hid (pops_any K k S s 1 (by omega) W h)
 clear h
 go_enter Tryz.func78, Tryz.ntmps78
 go_wp2_with fail
 refine (HC.out).mono ?_
 rintro e w1 ⟨A, c, rfl, hW, hA, ho⟩
 generalize popsM K 1 S = r at *
 obtain ⟨S1, l, t⟩ := r
 simp only at hlen hW hA HS harg
 rw [← harg] at ha
 have HA := Lib.hid hA
 have HO := Lib.hid ho
 obtain ⟨b, o, rfl, hc⟩ := word_cells hW (by omega)
 clear hA ho hW HC harg
 rw [hlen]
 dsimp only
 by_cases ht : t = 0
 ·subst ht
  obtain ⟨hc0, hr0⟩ := hc 0 (by omega)
  simp only [Nat.add_zero] at hc0
  have hlt : b < w1.heap.size := lt_of_cell hc0
  have HX := Lib.hid (show rangesM K S = if boundsM S1 (l.getD 0 0) then pushM K (l.getD 0 0) S1 else (S1, 2) by rw [HP.out, rangesR, if_neg (by simp)])
  generalize l.getD 0 0 = x0 at *
  have HBD := Lib.hid (fun W' (h' : At K S1 W') => bounds_any K S1 ha x0 hr0 W' h')
  clear hc hlen HP ha
  go_wp2_with fail
  refine (HBD.out _ HA.out).mono ?_
  rintro e w2 ⟨rfl, hb2⟩
  have H2 := Lib.hid (HA.out.grow hb2)
  have HO2 := Lib.hid (HO.out.trans (Only.of_below hb2))
  have hcd := (hb2.cell (p := ⟨b, o, none⟩) hlt).trans hc0
  have hlt2 : b < w2.heap.size := lt_of_cell hcd
  clear hb2 HA HO hc0 HBD hlt
  cases hq : boundsM S1 x0
  ·have HR := Lib.hid (show rangesM K S = (S1, 2) by rw [HX.out, hq]; rfl)
   go_wp2_with fail
   go_ret
   rw [HR.out]
   exact ⟨rfl, H2.out, HO2.out⟩
  ·have HR := Lib.hid (show rangesM K S = pushM K x0 S1 by rw [HX.out, hq]; rfl)
   go_wp2_with fail
   refine (push_any K k S1 HS.out x0 hr0 _ H2.out).mono ?_
   rintro e w3 ⟨rfl, h3, ho3⟩
   go_wp2_with fail
   go_ret
   rw [HR.out]
   exact ⟨rfl, h3, HO2.out.trans ho3⟩
 ·have d := bne_iff_ne.2 (show (t : Int) ≠ 0 by omega)
  have HR := Lib.hid (show rangesM K S = (S1, t) by rw [HP.out, rangesR, if_pos (by simpa using ht)])
  go_wp2_with fail
  go_ret
  rw [HR.out]
  exact ⟨rfl, HA.out, HO.out⟩
end Go.Proofs.YtabenhpjgjjgnaaGreatDoor
/- A machine's frame so many levels out. -/
namespace Go.Proofs.YtabenhpjgjjgnaaGreatDoor
open Go.RowKit
set_option maxRecDepth 100000
attribute [local go_sem ↓] Go.wp_at_zero Go.wp_at_succ
def outL (K : MK) (ws : Nat → Nat) : Nat → Int → Int × Nat
 | 0, fp => (fp, 0)
 | n + 1, fp => if (loadM K.n ws fp : Int) < K.low ∨ fp ≤ (loadM K.n ws fp : Int) then (0, 13) else outL K ws n (loadM K.n ws fp)
def outM (K : MK) (l : Nat) (S : St) : Int × Nat := if (hereP K S).level ≤ l then (0, 13) else outL K S.ws l S.fp
def OutEnd (W : World) (r : Int × Nat) (e : Ending) (w' : World) : Prop := e = .returned (.tuple #[.int .i64 r.1, .int .u8 (r.2 : Nat)]) ∧ Below W.heap.size W w'
theorem outL_le (K : MK) (ws : Nat → Nat) (hw : ∀ i, ws i < 65536) : ∀ (n : Nat) (fp : Int), 0 ≤ fp → fp ≤ 65536 → 0 ≤ (outL K ws n fp).1 ∧ (outL K ws n fp).1 ≤ 65536
 | 0, fp, h0, h1 => ⟨h0, h1⟩
 | n + 1, fp, h0, h1 => by
   unfold outL
   split
   ·exact ⟨by decide, by decide⟩
   ·exact outL_le K ws hw n _ (by omega) (by have := loadM_lt (n := K.n) hw fp; omega)
set_option maxHeartbeats 1000000 in
theorem out_frame (K : MK) (k : KOk K) (S : St) (s : SOk K S) (l : Nat) (hl : l ≤ 1000000) (W : World) (h : At K S W) : Calls Tryz.prog 135 #[.pointer (some ⟨K.b, 0, none⟩), .int .i64 l] W (OutEnd W (outM K l S)) := by
 have HS := Lib.hid s
 have H := Lib.hid h
 have c13 := h.c13
 have hlt := h.lt
 have HF := Lib.hid (show 0 ≤ S.fp ∧ S.fp ≤ 65536 from by
  have h1 := k.low1; have h2 := s.fp1; have h3 := s.top; have h4 := k.high; have h5 := k.n_le
  have h6 := (hereOk k s.toROk)
  unfold baseN at h3
  omega)
 have hlow := k.low1
 have HR0 := Lib.hid (show outM K l S = if (hereP K S).level ≤ l then (0, 13) else outL K S.ws l S.fp from rfl)
 have hv := (hereOk k s.toROk).2.2.2.2.1
 generalize hp : hereP K S = p at *
 obtain ⟨pa, pp, pl, pd, pv, pf⟩ := p
 have HP := Lib.hid hp
 simp only at hv HR0
 obtain ⟨hv0, hv1⟩ := hv
 clear h s hp
 go_enter Tryz.func135, Tryz.ntmps135
 go_wp2_with fail
 refine (here_eq H.out HS.out.toROk HP.out).mono ?_
 rintro e w1 ⟨rfl, hb1⟩
 have H1 := Lib.hid (H.out.grow hb1)
 have HB1 := Lib.hid hb1
 clear hb1 H c13 hlt
 have fld : ∀ w, (Instr.field 113 (.agg #[.int .i64 pa, .int .i64 pp, .int .i64 pl, .int .i64 pd, .int .i64 pv, .bool pf]) 4).run Tryz.prog w = .ok (.int .i64 pv) w := fun _ => by kernel_rfl
 by_cases hlv : pv ≤ (l : Int)
 ·have HR := Lib.hid (show outM K l S = (0, 13) by rw [HR0.out, if_pos hlv])
  have d0 := decide_eq_true hlv
  go_wp2_with fail
  go_ret2
  rw [HR.out]
  exact ⟨rfl, HB1.out⟩
 ·have hlv' : (l : Int) < pv := by omega
  have hl16 : (l : Int) ≤ 16 := by omega
  have HX := Lib.hid (show outM K l S = outL K S.ws l S.fp by rw [HR0.out, if_neg hlv])
  have d0 : decide (pv ≤ (l : Int)) = false := decide_eq_false hlv
  clear hlv HR0
  go_wp2_with fail
  clear fld d0
  go_loopg [6, 19] (l) (fun g u i wr => ∃ (j : Nat) (fp : Int), j + g = l ∧ u = .int .i64 fp ∧ i = .int .i64 j ∧ At K S wr ∧ Below W.heap.size W wr ∧ (0 ≤ fp ∧ fp ≤ 65536) ∧ outM K l S = outL K S.ws (l - j) fp)
  case atStart => exact ⟨0, S.fp, by omega, rfl, rfl, H1.out, HB1.out, HF.out, HX.out⟩
  case round =>
   clear HX HF H1 HB1
   obtain ⟨j, fp, hj, rfl, rfl, hA, hB, ⟨hf0, hf1⟩, hX⟩ := hrel
   have HA := Lib.hid hA
   have HB := Lib.hid hB
   have HX := Lib.hid hX
   have c3 := hA.c3
   have hlt := hA.lt
   clear hA hB hX
   by_cases hjl : j < l
   ·have hjI : (j : Int) < (l : Int) := by omega
    go_wp2_with fail
    refine (load_any K.bm K.n S.ws fp _ HA.out.mem).mono ?_
    rintro e w2 ⟨rfl, hb2⟩
    have HX2 := Lib.hid (show outM K l S = if (loadM K.n S.ws fp : Int) < K.low ∨ fp ≤ (loadM K.n S.ws fp : Int) then (0, 13) else outL K S.ws (l - (j + 1)) (loadM K.n S.ws fp) by
     rw [HX.out, show l - j = (l - (j + 1)) + 1 by omega]; rfl)
    have HL := Lib.hid (loadM_lt (n := K.n) HA.out.mem.small fp)
    have HA2 := Lib.hid (HA.out.grow hb2)
    have HB2 := Lib.hid (HB.out.trans (hb2.mono HB.out.size))
    clear hb2 HA HB HX c3 hlt
    generalize loadM K.n S.ws fp = x at *
    have hxl := HL.out
    have hxI : (x : Int) ≤ 65535 := by omega
    have c7 := HA2.out.c7
    have hlt := HA2.out.lt
    by_cases hc : (x : Int) < K.low ∨ fp ≤ (x : Int)
    ·have HX3 := Lib.hid (show outM K l S = (0, 13) by rw [HX2.out, if_pos hc])
     clear HX2
     by_cases hc1 : (x : Int) < K.low
     ·have d1 : decide ((x : Int) < K.low) = true := decide_eq_true hc1
      go_wp2_with fail
      go_ret2
      rw [HX3.out]
      exact ⟨rfl, HB2.out⟩
     ·have hc2 : fp ≤ (x : Int) := by omega
      have d1 : decide ((x : Int) < K.low) = false := decide_eq_false hc1
      clear hc
      go_wp2_with fail
      go_ret2
      rw [HX3.out]
      exact ⟨rfl, HB2.out⟩
    ·have HX3 := Lib.hid (show outM K l S = outL K S.ws (l - (j + 1)) x by rw [HX2.out, if_neg hc])
     have d1 : decide ((x : Int) < K.low) = false := decide_eq_false (by omega)
     have d2 : decide (fp ≤ (x : Int)) = false := decide_eq_false (by omega)
     clear HX2 hc
     go_wp2_with fail
     go_roundg (gk - 1)
     case measure => omega
     case rel => exact ⟨j + 1, x, by omega, rfl, by go_num, HA2.out, HB2.out, ⟨by omega, by omega⟩, HX3.out⟩
   ·obtain rfl : j = l := by omega
    have HX2 := Lib.hid (show outM K j S = (fp, 0) by rw [HX.out, Nat.sub_self]; rfl)
    go_wp2_with fail
    go_ret2
    rw [HX2.out]
    exact ⟨rfl, HB.out⟩
end Go.Proofs.YtabenhpjgjjgnaaGreatDoor
