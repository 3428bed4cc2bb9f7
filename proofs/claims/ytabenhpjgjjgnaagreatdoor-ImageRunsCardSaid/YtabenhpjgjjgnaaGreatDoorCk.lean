/- A region that draws its order, where but one pair of operations may change place. image. slices. obj. slices. Condition: what lies in memory can lie there; what each theorem says. -/
import Derived.Test.YtabenhpjgjjgnaaGreatDoorBa
import Derived.Test.YtabenhpjgjjgnaaGreatDoorCi
import Derived.StillTailTactics
/- A region that draws its order, where but one pair of operations may change place. -/
namespace Go.Proofs.YtabenhpjgjjgnaaGreatDoor
open Go.RowKit
section
variable {P : Program} {ops : Array Oper} {md : Region.Mode}
def preB (md : Region.Mode) (ops : Array Oper) (fin : Array Bool) : Nat → Nat → Array Bool → Bool
 | 0, _, listed => listed == fin
 | g + 1, k, listed => decide (Region.ready md ops listed = [k]) && preB md ops fin g (k + 1) (listed.setIfInBounds k true)
theorem any_pre {w : World} {Q : Exit → Act → World → Prop} {g : Nat} {fin : Array Bool} : ∀ (l : List Oper) (k : Nat) (listed : Array Bool) (a : Act), (∀ j, j < l.length → l[j]? = ops[k + j]?) →
 preB md ops fin l.length k listed = true → wpStill P ops w (fun a' => wpAny P md ops Q g fin a' w) l a → wpAny P md ops Q (l.length + g) listed a w
 | [], _, listed, a, _, hB, h => by
   have : listed = fin := by simpa [preB] using hB
   subst this
   rw [List.length_nil, Nat.zero_add]
   exact h
 | o :: l, k, listed, a, hl, hB, h => by
   have h0 : ops[k]? = some o := by simpa using (hl 0 (by simp)).symm
   simp only [List.length_cons, preB, Bool.and_eq_true, decide_eq_true_eq] at hB
   rw [List.length_cons, show l.length + 1 + g = (l.length + g) + 1 by omega]
   refine ⟨fun h1 => (by rw [hB.1] at h1; cases h1), fun i hi => ?_⟩
   rw [hB.1] at hi
   have hik : i = k := by simpa using hi
   subst hik
   have hst : stOp P ops w i (wpStill P ops w (fun a' => wpAny P md ops Q g fin a' w) l) a := by unfold stOp; simp only [h0]; exact h
   exact wpOp_of_stOp (fun a' h' => any_pre l (i + 1) _ a' (fun j hj => by have := hl (j + 1) (by simp; omega); simpa [Nat.add_assoc, Nat.add_comm 1 j] using this) hB.2 h') hst
theorem wpStill_mono' {w : World} {K K' : Act → Prop} (h : ∀ a, K a → K' a) : ∀ (l : List Oper) (a : Act), wpStill P ops w K l a → wpStill P ops w K' l a
 | [], a, hh => h a hh
 | o :: l, a, hh => by
   unfold wpStill at hh ⊢
   by_cases hw : Region.wanted o (yielded ops a.tmps) = true
   ·rw [if_pos hw] at hh ⊢; exact Oper.still_mono (fun a => wpStill_mono' h l a) hh
   ·rw [if_neg hw] at hh ⊢; exact wpStill_mono' h l _ hh
def forkB (md : Region.Mode) (ops : Array Oper) (fin : Array Bool) (n : Nat) : Bool :=
 decide (n + 2 ≤ ops.size) && preB md ops fin n 0 (Array.replicate ops.size false) && decide (Region.ready md ops fin = [n, n + 1]) &&
  Region.seqB md ops (ops.size - (n + 1)) (n + 1) (fin.setIfInBounds n true) && decide (Region.ready md ops (fin.setIfInBounds (n + 1) true) = [n]) && Region.seqB md ops (ops.size - (n + 2)) (n + 2) ((fin.setIfInBounds (n + 1) true).setIfInBounds n true)
theorem wp_region_fork {id : Nat} {Q : Exit → Act → World → Prop} {a : Act} {w : World} {l : List Oper} (n : Nat) (fin : Array Bool) {o1 o2 : Oper} {rest : List Oper} (hm : P.follows .mixedOrders = true) (hB : forkB .any l.toArray fin n = true) (hd : l.drop n = o1 :: o2 :: rest)
 (h : wpStill P l.toArray w.drew (fun a' => wpList P l.toArray Q (o1 :: o2 :: rest) a' w.drew ∧ wpList P l.toArray Q (o2 :: o1 :: rest) a' w.drew) (l.take n) a) : (Code.region id l.toArray true).wp P Q a w := by
 simp only [forkB, Bool.and_eq_true, decide_eq_true_eq] at hB
 obtain ⟨⟨⟨⟨⟨hn, hpre⟩, hr⟩, hs1⟩, hr2⟩, hs2⟩ := hB
 have hn' : n + 2 ≤ l.length := by simpa using hn
 have hsz : l.toArray.size = l.length := by simp
 have hrl : rest.length = l.length - (n + 2) := by
  have := congrArg List.length hd
  simp only [List.length_drop, List.length_cons] at this
  omega
 have at_ : ∀ j, (o1 :: o2 :: rest)[j]? = l.toArray[n + j]? := fun j => by rw [← hd]; simp [List.getElem?_drop]
 have h1 : l.toArray[n]? = some o1 := by simpa using (at_ 0).symm
 have h2 : l.toArray[n + 1]? = some o2 := by simpa using (at_ 1).symm
 have htl : (l.take n).length = n := by simp; omega
 refine wp_region_any hm ?_
 have hsum : (l.take n).length + (l.length - (n + 1) + 1) = l.toArray.size := by rw [htl, hsz]; omega
 have key := any_pre (md := .any) (Q := Q) (g := l.length - (n + 1) + 1) (w := w.drew) (ops := l.toArray) (P := P) (fin := fin) (l.take n) 0 (Array.replicate l.toArray.size false) a (fun j hj => by rw [htl] at hj; simp [hj]) (by rw [htl]; exact hpre) (wpStill_mono' (fun a' h' => ?_) _ _ h)
 ·rw [hsum] at key; exact key
 refine ⟨fun h0 => (by rw [hr] at h0; cases h0), fun i hi => ?_⟩
 rw [hr] at hi
 simp only [List.mem_cons, List.not_mem_nil, or_false] at hi
 rcases hi with rfl | rfl
 ·have hw : wpOp P l.toArray Q i (wpList P l.toArray Q (o2 :: rest)) a' w.drew := by unfold wpOp; simp only [h1]; exact h'.1
  refine wpOp_mono (fun a2 w2 h3 => ?_) hw
  have := wpAny_of_seq (md := .any) (Q' := Q) (o2 :: rest) (i + 1) (fin.setIfInBounds i true) a2 w2 (fun j => by have := at_ (j + 1); simpa [Nat.add_assoc, Nat.add_comm 1 j] using this) (by rw [List.length_cons, hrl, show l.length - (i + 2) + 1 = l.toArray.size - (i + 1) by rw [hsz]; omega]; exact hs1) h3
  rwa [List.length_cons, hrl, show l.length - (i + 2) + 1 = l.length - (i + 1) by omega] at this
 ·have hw : wpOp P l.toArray Q (n + 1) (wpList P l.toArray Q (o1 :: rest)) a' w.drew := by unfold wpOp; simp only [h2]; exact h'.2
  refine wpOp_mono (fun a2 w2 h3 => ?_) hw
  rw [show l.length - (n + 1) = (l.length - (n + 2)) + 1 by omega]
  refine ⟨fun h0 => (by rw [hr2] at h0; cases h0), fun i hi => ?_⟩
  rw [hr2] at hi
  have hin : i = n := by simpa using hi
  subst hin
  have hw : wpOp P l.toArray Q i (wpList P l.toArray Q rest) a2 w2 := by unfold wpOp; simp only [h1]; exact h3
  refine wpOp_mono (fun a4 w4 h4 => ?_) hw
  have := wpAny_of_seq (md := .any) (Q' := Q) rest (i + 2) ((fin.setIfInBounds (i + 1) true).setIfInBounds i true) a4 w4 (fun j => by have := at_ (j + 2); simpa [Nat.add_assoc, Nat.add_comm 2 j] using this) (by rw [hrl, show l.length - (i + 2) = l.toArray.size - (i + 2) by rw [hsz]]; exact hs2) h4
  rwa [hrl] at this
end
end Go.Proofs.YtabenhpjgjjgnaaGreatDoor
/- image. -/
namespace Go.Proofs.YtabenhpjgjjgnaaGreatDoor
open Go.RowKit
set_option maxRecDepth 100000
def codeTo (ms : List ModL) : Nat → Int
 | 0 => 0
 | k + 1 => wrap64 (codeTo ms k + ((ms.getD k default).code.length : Int))
def dataTo (ms : List ModL) : Nat → Int
 | 0 => 0
 | k + 1 => wrap64 (dataTo ms k + (ms.getD k default).data)
theorem codeTo_succ (ms : List ModL) (k : Nat) : codeTo ms (k + 1) = wrap64 (codeTo ms k + ((ms.getD k default).code.length : Int)) := rfl
theorem dataTo_succ (ms : List ModL) (k : Nat) : dataTo ms (k + 1) = wrap64 (dataTo ms k + (ms.getD k default).data) := rfl
set_option maxHeartbeats 1000000 in
theorem sizes_any (s : IS) (i : ImgL) (w : World) (hI : ImgIn w s i) : Calls Tryz.prog 44 #[imgV s i] w fun e w' => e = .returned (.tuple #[.int .i64 (codeTo i.mods i.mods.length), .int .i64 (dataTo i.mods i.mods.length)]) ∧ Below w.heap.size w w' := by
 have hm := hI.mods_le
 have HI := Lib.hid hI
 clear hI
 unfold imgV
 go_enter Tryz.func44, Tryz.ntmps44
 go_wp2_with fail
 go_loopg [2, 3, 10] (i.mods.length) (fun g u v x wr => ∃ k : Nat, k + g = i.mods.length ∧ x = .int .i64 k ∧ u = .int .i64 (codeTo i.mods k) ∧ v = .int .i64 (dataTo i.mods k) ∧ Below w.heap.size w wr)
 case atStart => exact ⟨0, by omega, rfl, rfl, rfl, alloc_below w _⟩
 case round =>
  obtain ⟨k, hk, rfl, rfl, rfl, hb⟩ := hrel
  by_cases hlt : k < i.mods.length
  ·obtain ⟨bm, om, hA2, hb2, s2, hM, d0, d1, d2, d3, d4⟩ := Each.at_ (HI.out.mods.later hb (Nat.le_refl _)) hlt
   have H1 := Lib.hid (codeTo_succ i.mods k)
   have H2 := Lib.hid (dataTo_succ i.mods k)
   have hcl := hM.code_le
   have HB := Lib.hid hb
   clear hM hb
   generalize i.mods.getD k default = m at *
   generalize codeTo i.mods k = c at *
   generalize dataTo i.mods k = d at *
   obtain ⟨A1, cc1, A2, cc2, A3, cc3⟩ := s
   simp only at hA2 ⊢
   subst hA2
   have hkI : (k : Int) < (i.mods.length : Int) := by omega
   have HAl := Lib.hid (HB.out.trans ((alloc_below wr (.cells (modCells s2 m) 68)).mono HB.out.size))
   go_wp2_with fail
   go_roundg (gk - 1)
   case measure => omega
   case rel => exact ⟨k + 1, by omega, by go_num, by rw [H1.out], by rw [H2.out], HAl.out⟩
  ·obtain rfl : k = i.mods.length := by omega
   have HB := Lib.hid hb
   clear hb
   go_wp2_with fail
   go_ret2
   exact ⟨rfl, HB.out⟩
end Go.Proofs.YtabenhpjgjjgnaaGreatDoor
/- slices. -/
namespace Go.Proofs.YtabenhpjgjjgnaaGreatDoor
open Go.RowKit
set_option maxRecDepth 100000
theorem ne_of_len {α : Type} [DecidableEq α] {xs ys : List α} (h : xs.length ≠ ys.length) : decide (xs = ys) = false := decide_eq_false fun e => h (by rw [e])
theorem ne_at {α : Type} [DecidableEq α] {xs ys : List α} (k : Nat) (d : α) (h : xs.getD k d ≠ ys.getD k d) : decide (xs = ys) = false := decide_eq_false fun e => h (by rw [e])
theorem eq_take_succ {α : Type} {xs ys : List α} (k : Nat) (d : α) (h1 : k < xs.length) (h2 : k < ys.length) (h : xs.take k = ys.take k) (he : xs.getD k d = ys.getD k d) : xs.take (k + 1) = ys.take (k + 1) := by
 have e : xs[k] = ys[k] := by simpa [List.getD_eq_getElem?_getD, h1, h2] using he
 rw [List.take_succ_eq_append_getElem h1, List.take_succ_eq_append_getElem h2, h, e]
theorem eq_full {α : Type} [DecidableEq α] {xs ys : List α} (hl : xs.length = ys.length) (h : xs.take xs.length = ys.take xs.length) : decide (xs = ys) = true := by
 rw [List.take_length, hl, List.take_length] at h; exact decide_eq_true h
set_option maxHeartbeats 2000000 in
theorem eqStrs (A1 A2 : Option Addr) (c d : Nat) (xs ys : List (List UInt8)) (hx : xs.length ≤ 140737488355328) (hy : ys.length ≤ 140737488355328) (w : World) (h1 : Strs w A1 xs) (h2 : Strs w A2 ys) :
 Calls Tryz.prog 110 #[.slice A1 xs.length c, .slice A2 ys.length d] w (BoolEnd w (decide (xs = ys))) := by
 have H1 := Lib.hid h1
 have H2 := Lib.hid h2
 clear h1 h2
 by_cases hl : xs.length = ys.length
 case neg =>
  have HX := Lib.hid (ne_of_len hl)
  have d1 : ((xs.length : Int) == (ys.length : Int)) = false := by simp; omega
  have d2 : (xs.length == ys.length) = false := by simpa using hl
  have d3 : ((xs.length : Int) != (ys.length : Int)) = true := by simp; omega
  clear hl
  go_enter Tryz.func110, Tryz.ntmps110
  go_wp2_with fail
  go_ret
  exact boolEnd_false HX.out (Below.refl _ _)
 have d1 : ((xs.length : Int) == (ys.length : Int)) = true := by simp; omega
 have d2 : (xs.length == ys.length) = true := by simpa using hl
 have d3 : ((xs.length : Int) != (ys.length : Int)) = false := by simp; omega
 have HL := Lib.hid hl
 clear hl
 go_enter Tryz.func110, Tryz.ntmps110
 go_wp2_with fail
 clear d1 d2 d3
 go_loopg [13] (xs.length) (fun g i wr => ∃ k : Nat, k + g = xs.length ∧ i = .int .i64 k ∧ xs.take k = ys.take k ∧ ∃ q, wr = w.drewN q)
 case atStart => exact ⟨0, by omega, rfl, rfl, 0, rfl⟩
 case round =>
  obtain ⟨k, hk, rfl, hall, q, rfl⟩ := hrel
  have HA := Lib.hid hall
  clear hall
  by_cases hlt : k < xs.length
  ·have hlt2 : k < ys.length := by have := HL.out; omega
   obtain ⟨b1, o1, hA1, hbl1, c0⟩ := Each.at_ H1.out hlt
   obtain ⟨b2, o2, hA2, hbl2, e0⟩ := Each.at_ H2.out hlt2
   have HS := Lib.hid (fun he => eq_take_succ (xs := xs) (ys := ys) k [] hlt hlt2 HA.out he)
   have HN := Lib.hid (fun he => ne_at (xs := xs) (ys := ys) k [] he)
   subst hA1 hA2
   have hkI : (k : Int) < (xs.length : Int) := by omega
   have hkI2 : (k : Int) < (ys.length : Int) := by omega
   generalize xs.getD k [] = x at *
   generalize ys.getD k [] = y at *
   obtain ⟨c0, _⟩ := c0
   obtain ⟨e0, _⟩ := e0
   rw [Nat.mul_one] at c0 e0
   by_cases hxy : x = y
   ·subst hxy
    go_wp2_with fail
    go_quiet (fail)
    go_wp2_with fail
    go_roundg (gk - 1)
    case measure => omega
    case rel => exact ⟨k + 1, by omega, by go_num, HS.out (by first | rfl | trivial), _, rfl⟩
   ·have HX := Lib.hid (HN.out hxy)
    have f1 : (x == y) = false := by simp [hxy]
    have f2 : decide (x = y) = false := by simp [hxy]
    have f3 : (x != y) = true := by simp [hxy]
    clear hxy
    all_goals
     go_wp2_with fail
     go_quiet (fail)
     go_wp2_with fail
     go_ret
     exact boolEnd_false HX.out (below_drawn (below_drawn (Below.refl _ _) _) _)
  ·obtain rfl : k = xs.length := by omega
   have HX := Lib.hid (eq_full HL.out HA.out)
   go_wp2_with fail
   go_ret
   exact boolEnd_of HX.out.symm (below_drawn (Below.refl _ _) _)
set_option maxHeartbeats 2000000 in
theorem eqInts (A1 A2 : Option Addr) (c d : Nat) (xs ys : List Int) (hx : xs.length ≤ 140737488355328) (hy : ys.length ≤ 140737488355328) (w : World) (h1 : Ints w A1 xs) (h2 : Ints w A2 ys) :
 Calls Tryz.prog 112 #[.slice A1 xs.length c, .slice A2 ys.length d] w (BoolEnd w (decide (xs = ys))) := by
 have H1 := Lib.hid h1
 have H2 := Lib.hid h2
 clear h1 h2
 by_cases hl : xs.length = ys.length
 case neg =>
  have HX := Lib.hid (ne_of_len hl)
  have d1 : ((xs.length : Int) == (ys.length : Int)) = false := by simp; omega
  have d2 : (xs.length == ys.length) = false := by simpa using hl
  have d3 : ((xs.length : Int) != (ys.length : Int)) = true := by simp; omega
  clear hl
  go_enter Tryz.func112, Tryz.ntmps112
  go_wp2_with fail
  go_ret
  exact boolEnd_false HX.out (Below.refl _ _)
 have d1 : ((xs.length : Int) == (ys.length : Int)) = true := by simp; omega
 have d2 : (xs.length == ys.length) = true := by simpa using hl
 have d3 : ((xs.length : Int) != (ys.length : Int)) = false := by simp; omega
 have HL := Lib.hid hl
 clear hl
 go_enter Tryz.func112, Tryz.ntmps112
 go_wp2_with fail
 clear d1 d2 d3
 go_loopg [13] (xs.length) (fun g i wr => ∃ k : Nat, k + g = xs.length ∧ i = .int .i64 k ∧ xs.take k = ys.take k ∧ ∃ q, wr = w.drewN q)
 case atStart => exact ⟨0, by omega, rfl, rfl, 0, rfl⟩
 case round =>
  obtain ⟨k, hk, rfl, hall, q, rfl⟩ := hrel
  have HA := Lib.hid hall
  clear hall
  by_cases hlt : k < xs.length
  ·have hlt2 : k < ys.length := by have := HL.out; omega
   obtain ⟨b1, o1, hA1, hbl1, c0⟩ := Each.at_ H1.out hlt
   obtain ⟨b2, o2, hA2, hbl2, e0⟩ := Each.at_ H2.out hlt2
   have HS := Lib.hid (fun he => eq_take_succ (xs := xs) (ys := ys) k 0 hlt hlt2 HA.out he)
   have HN := Lib.hid (fun he => ne_at (xs := xs) (ys := ys) k 0 he)
   subst hA1 hA2
   have hkI : (k : Int) < (xs.length : Int) := by omega
   have hkI2 : (k : Int) < (ys.length : Int) := by omega
   generalize xs.getD k 0 = x at *
   generalize ys.getD k 0 = y at *
   rw [Nat.mul_one] at c0 e0
   by_cases hxy : x = y
   ·subst hxy
    go_wp2_with fail
    go_quiet (fail)
    go_wp2_with fail
    go_roundg (gk - 1)
    case measure => omega
    case rel => exact ⟨k + 1, by omega, by go_num, HS.out (by first | rfl | trivial), _, rfl⟩
   ·have HX := Lib.hid (HN.out hxy)
    have f1 : (x == y) = false := by simp [hxy]
    have f2 : decide (x = y) = false := by simp [hxy]
    have f3 : (x != y) = true := by simp [hxy]
    clear hxy
    all_goals
     go_wp2_with fail
     go_quiet (fail)
     go_wp2_with fail
     go_ret
     exact boolEnd_false HX.out (below_drawn (below_drawn (Below.refl _ _) _) _)
  ·obtain rfl : k = xs.length := by omega
   have HX := Lib.hid (eq_full HL.out HA.out)
   go_wp2_with fail
   go_ret
   exact boolEnd_of HX.out.symm (below_drawn (Below.refl _ _) _)
set_option maxHeartbeats 2000000 in
theorem eqWords (A1 A2 : Option Addr) (c d : Nat) (xs ys : List Nat) (hx : xs.length ≤ 140737488355328) (hy : ys.length ≤ 140737488355328) (w : World) (h1 : Words w A1 xs) (h2 : Words w A2 ys) :
 Calls Tryz.prog 244 #[.slice A1 xs.length c, .slice A2 ys.length d] w (BoolEnd w (decide (xs = ys))) := by
 have H1 := Lib.hid h1
 have H2 := Lib.hid h2
 clear h1 h2
 by_cases hl : xs.length = ys.length
 case neg =>
  have HX := Lib.hid (ne_of_len hl)
  have d1 : ((xs.length : Int) == (ys.length : Int)) = false := by simp; omega
  have d2 : (xs.length == ys.length) = false := by simpa using hl
  have d3 : ((xs.length : Int) != (ys.length : Int)) = true := by simp; omega
  clear hl
  go_enter Tryz.func244, Tryz.ntmps244
  go_wp2_with fail
  go_ret
  exact boolEnd_false HX.out (Below.refl _ _)
 have d1 : ((xs.length : Int) == (ys.length : Int)) = true := by simp; omega
 have d2 : (xs.length == ys.length) = true := by simpa using hl
 have d3 : ((xs.length : Int) != (ys.length : Int)) = false := by simp; omega
 have HL := Lib.hid hl
 clear hl
 go_enter Tryz.func244, Tryz.ntmps244
 go_wp2_with fail
 clear d1 d2 d3
 go_loopg [13] (xs.length) (fun g i wr => ∃ k : Nat, k + g = xs.length ∧ i = .int .i64 k ∧ xs.take k = ys.take k ∧ ∃ q, wr = w.drewN q)
 case atStart => exact ⟨0, by omega, rfl, rfl, 0, rfl⟩
 case round =>
  obtain ⟨k, hk, rfl, hall, q, rfl⟩ := hrel
  have HA := Lib.hid hall
  clear hall
  by_cases hlt : k < xs.length
  ·have hlt2 : k < ys.length := by have := HL.out; omega
   obtain ⟨b1, o1, hA1, hbl1, c0⟩ := Each.at_ H1.out hlt
   obtain ⟨b2, o2, hA2, hbl2, e0⟩ := Each.at_ H2.out hlt2
   have HS := Lib.hid (fun he => eq_take_succ (xs := xs) (ys := ys) k 0 hlt hlt2 HA.out he)
   have HN := Lib.hid (fun he => ne_at (xs := xs) (ys := ys) k 0 he)
   subst hA1 hA2
   have hkI : (k : Int) < (xs.length : Int) := by omega
   have hkI2 : (k : Int) < (ys.length : Int) := by omega
   generalize xs.getD k 0 = x at *
   generalize ys.getD k 0 = y at *
   obtain ⟨c0, _⟩ := c0
   obtain ⟨e0, _⟩ := e0
   rw [Nat.mul_one] at c0 e0
   by_cases hxy : x = y
   ·subst hxy
    go_wp2_with fail
    go_quiet (fail)
    go_wp2_with fail
    go_roundg (gk - 1)
    case measure => omega
    case rel => exact ⟨k + 1, by omega, by go_num, HS.out (by first | rfl | trivial), _, rfl⟩
   ·have HX := Lib.hid (HN.out hxy)
    have f1 : ((x : Int) == (y : Int)) = false := by simp; omega
    have f2 : (x == y) = false := by simp [hxy]
    have f3 : ((x : Int) != (y : Int)) = true := by simp; omega
    clear hxy
    all_goals
     go_wp2_with fail
     go_quiet (fail)
     go_wp2_with fail
     go_ret
     exact boolEnd_false HX.out (below_drawn (below_drawn (Below.refl _ _) _) _)
  ·obtain rfl : k = xs.length := by omega
   have HX := Lib.hid (eq_full HL.out HA.out)
   go_wp2_with fail
   go_ret
   exact boolEnd_of HX.out.symm (below_drawn (Below.refl _ _) _)
set_option maxHeartbeats 2000000 in
theorem eqProcs (A1 A2 : Option Addr) (c d : Nat) (xs ys : List ProcL) (hx : xs.length ≤ 140737488355328) (hy : ys.length ≤ 140737488355328) (w : World) (h1 : Procs w A1 xs) (h2 : Procs w A2 ys) :
 Calls Tryz.prog 243 #[.slice A1 xs.length c, .slice A2 ys.length d] w (BoolEnd w (decide (xs = ys))) := by
 have H1 := Lib.hid h1
 have H2 := Lib.hid h2
 clear h1 h2
 by_cases hl : xs.length = ys.length
 case neg =>
  have HX := Lib.hid (ne_of_len hl)
  have d1 : ((xs.length : Int) == (ys.length : Int)) = false := by simp; omega
  have d2 : (xs.length == ys.length) = false := by simpa using hl
  have d3 : ((xs.length : Int) != (ys.length : Int)) = true := by simp; omega
  clear hl
  go_enter Tryz.func243, Tryz.ntmps243
  go_wp2_with fail
  go_ret
  exact boolEnd_false HX.out (Below.refl _ _)
 have d1 : ((xs.length : Int) == (ys.length : Int)) = true := by simp; omega
 have d2 : (xs.length == ys.length) = true := by simpa using hl
 have d3 : ((xs.length : Int) != (ys.length : Int)) = false := by simp; omega
 have HL := Lib.hid hl
 clear hl
 go_enter Tryz.func243, Tryz.ntmps243
 go_wp2_with fail
 clear d1 d2 d3
 go_loopg [13] (xs.length) (fun g i wr => ∃ k : Nat, k + g = xs.length ∧ i = .int .i64 k ∧ xs.take k = ys.take k ∧ ∃ q, wr = w.drewN q)
 case atStart => exact ⟨0, by omega, rfl, rfl, 0, rfl⟩
 case round =>
  obtain ⟨k, hk, rfl, hall, q, rfl⟩ := hrel
  have HA := Lib.hid hall
  clear hall
  by_cases hlt : k < xs.length
  ·have hlt2 : k < ys.length := by have := HL.out; omega
   obtain ⟨b1, o1, hA1, hbl1, c0⟩ := Each.at_ H1.out hlt
   obtain ⟨b2, o2, hA2, hbl2, e0⟩ := Each.at_ H2.out hlt2
   have HS := Lib.hid (fun he => eq_take_succ (xs := xs) (ys := ys) k default hlt hlt2 HA.out he)
   have HN := Lib.hid (fun he => ne_at (xs := xs) (ys := ys) k default he)
   subst hA1 hA2
   have hkI : (k : Int) < (xs.length : Int) := by omega
   have hkI2 : (k : Int) < (ys.length : Int) := by omega
   generalize xs.getD k default = x at *
   generalize ys.getD k default = y at *
   obtain ⟨c0, c1, c2, c3, c4, c5⟩ := c0
   obtain ⟨e0, e1, e2, e3, e4, e5⟩ := e0
   by_cases hxy : x = y
   ·subst hxy
    go_wp2_with fail
    go_quiet (fail)
    go_wp2_with fail
    go_roundg (gk - 1)
    case measure => omega
    case rel => exact ⟨k + 1, by omega, by go_num, HS.out (by first | rfl | trivial), _, rfl⟩
   ·have HX := Lib.hid (HN.out hxy)
    obtain ⟨xa, xp, xl, xd, xv, xf⟩ := x
    obtain ⟨ya, yp, yl, yd, yv, yf⟩ := y
    simp only at c0 c1 c2 c3 c4 c5 e0 e1 e2 e3 e4 e5
    have HD : (xa == ya) = false ∨ (xa = ya ∧ (xp == yp) = false) ∨ (xa = ya ∧ xp = yp ∧ (xl == yl) = false) ∨ (xa = ya ∧ xp = yp ∧ xl = yl ∧ (xd == yd) = false) ∨ (xa = ya ∧ xp = yp ∧ xl = yl ∧ xd = yd ∧ (xv == yv) = false) ∨ (xa = ya ∧ xp = yp ∧ xl = yl ∧ xd = yd ∧ xv = yv ∧ (xf == yf) = false) := by
     simp only [beq_eq_false_iff_ne, ne_eq]
     by_cases g1 : xa = ya
     ·by_cases g2 : xp = yp
      ·by_cases g3 : xl = yl
       ·by_cases g4 : xd = yd
        ·by_cases g5 : xv = yv
         ·exact .inr (.inr (.inr (.inr (.inr ⟨g1, g2, g3, g4, g5, fun g6 => hxy (by rw [g1, g2, g3, g4, g5, g6])⟩))))
         ·exact .inr (.inr (.inr (.inr (.inl ⟨g1, g2, g3, g4, g5⟩))))
        ·exact .inr (.inr (.inr (.inl ⟨g1, g2, g3, g4⟩)))
       ·exact .inr (.inr (.inl ⟨g1, g2, g3⟩))
      ·exact .inr (.inl ⟨g1, g2⟩)
     ·exact .inl g1
    have HXY := Lib.hid hxy
    rcases HD with f1 | ⟨rfl, f1⟩ | ⟨rfl, rfl, f1⟩ | ⟨rfl, rfl, rfl, f1⟩ | ⟨rfl, rfl, rfl, rfl, f1⟩ | ⟨rfl, rfl, rfl, rfl, rfl, f1⟩
    all_goals clear HXY hxy
    all_goals
     go_wp2_with fail
     go_quiet (fail)
     go_wp2_with fail
     go_ret
     exact boolEnd_false HX.out (below_drawn (below_drawn (Below.refl _ _) _) _)
  ·obtain rfl : k = xs.length := by omega
   have HX := Lib.hid (eq_full HL.out HA.out)
   go_wp2_with fail
   go_ret
   exact boolEnd_of HX.out.symm (below_drawn (Below.refl _ _) _)
end Go.Proofs.YtabenhpjgjjgnaaGreatDoor
/- obj. -/
namespace Go.Proofs.YtabenhpjgjjgnaaGreatDoor
open Go.RowKit
set_option maxRecDepth 100000
theorem mod_ne {m n : ModL} (h : m.code ≠ n.code ∨ m.procs ≠ n.procs ∨ m.imports ≠ n.imports ∨ m.data ≠ n.data ∨ m.init ≠ n.init) : decide (m = n) = false := decide_eq_false fun e => by
 subst e
 rcases h with h | h | h | h | h <;> exact h rfl
structure Two (w : World) (cs ds : Array Value) (T : TypeId) (W : World) : Prop where
 one : Box w.heap.size cs T W
 two : Box (w.heap.size + 1) ds T W
 old : Below w.heap.size w W
theorem Two.new (w : World) (cs ds : Array Value) (T : TypeId) (hT : T ≠ 5) : Two w cs ds T ((w.alloc (.cells cs T)).alloc (.cells ds T)) :=
 ⟨(Box.new w cs T hT).grow (alloc_below _ _), by simpa using Box.new (w.alloc (.cells cs T)) ds T hT, ((Below.refl _ _).alloc (Nat.le_refl _) _).alloc (by simp) _⟩
theorem Two.grow {w : World} {cs ds : Array Value} {T : TypeId} {W W' : World} (h : Two w cs ds T W) (hb : Below W.heap.size W W') : Two w cs ds T W' :=
 ⟨h.one.grow hb, h.two.grow hb, h.old.trans (hb.mono (Nat.le_of_lt h.one.lt))⟩
theorem Two.c {w : World} {cs ds : Array Value} {T : TypeId} {W : World} (h : Two w cs ds T W) (i : Nat) (v : Value) (hv : cs[i]? = some v) : W.cell? ⟨w.heap.size, i, none⟩ = some v := (h.one.cell i).trans hv
theorem Two.d {w : World} {cs ds : Array Value} {T : TypeId} {W : World} (h : Two w cs ds T W) (i : Nat) (v : Value) (hv : ds[i]? = some v) : W.cell? ⟨w.heap.size + 1, i, none⟩ = some v := (h.two.cell i).trans hv
set_option maxHeartbeats 2000000 in
theorem sameModule_any (s t : MS) (m n : ModL) (w : World) (hM : ModIn w s m) (hN : ModIn w t n) : Calls Tryz.prog 195 #[modV s m, modV t n] w (BoolEnd w (decide (m = n))) := by
 have HM := Lib.hid hM
 have HN := Lib.hid hN
 have hm1 := hM.procs_le
 have hm2 := hM.imports_le
 have hm3 := hM.init_le
 have hn1 := hN.procs_le
 have hn2 := hN.imports_le
 have hn3 := hN.init_le
 have HT := Lib.hid (Two.new w (modCells s m) (modCells t n) 68 (by decide))
 clear hM hN
 obtain ⟨mc, mp, mi, md, mt⟩ := m
 obtain ⟨nc, np, ni, nd, nt⟩ := n
 unfold modV
 simp only at hm1 hm2 hm3 hn1 hn2 hn3 ⊢
 by_cases h1 : mc = nc
 case neg =>
  have HX := Lib.hid (mod_ne (m := ⟨mc, mp, mi, md, mt⟩) (n := ⟨nc, np, ni, nd, nt⟩) (.inl h1))
  have f1 : (mc == nc) = false := by simp [h1]
  have f2 : decide (mc = nc) = false := by simp [h1]
  clear h1
  go_enter Tryz.func195, Tryz.ntmps195
  go_wp2_with fail
  go_ret
  exact boolEnd_false HX.out HT.out.old
 subst h1
 go_enter Tryz.func195, Tryz.ntmps195
 go_wp2_with fail
 refine (eqProcs s.A1 t.A1 s.c1 t.c1 mp np hm1 hn1 _ (HM.out.procs.later HT.out.old (Nat.le_refl _)) (HN.out.procs.later HT.out.old (Nat.le_refl _))).mono ?_
 rintro e w2 ⟨rfl, hb2⟩
 have HT2 := Lib.hid (HT.out.grow hb2)
 clear hb2 HT
 have b2 := HT2.out.c 2 (.slice s.A2 mi.length s.c2) rfl
 have b3 := HT2.out.c 3 (.int .i64 md) rfl
 have b4 := HT2.out.c 4 (.slice s.A3 mt.length s.c3) rfl
 have e2 := HT2.out.d 2 (.slice t.A2 ni.length t.c2) rfl
 have e3 := HT2.out.d 3 (.int .i64 nd) rfl
 have e4 := HT2.out.d 4 (.slice t.A3 nt.length t.c3) rfl
 by_cases h2 : mp = np
 case neg =>
  have HX := Lib.hid (mod_ne (m := ⟨mc, mp, mi, md, mt⟩) (n := ⟨mc, np, ni, nd, nt⟩) (.inr (.inl h2)))
  rw [decide_eq_false h2]
  clear h2
  go_wp2_with fail
  go_ret
  exact boolEnd_false HX.out HT2.out.old
 rw [decide_eq_true h2]
 subst h2
 go_wp2_with fail
 refine (eqInts s.A2 t.A2 s.c2 t.c2 mi ni hm2 hn2 _ (HM.out.imports.later HT2.out.old (Nat.le_refl _)) (HN.out.imports.later HT2.out.old (Nat.le_refl _))).mono ?_
 rintro e w3 ⟨rfl, hb3⟩
 have HT3 := Lib.hid (HT2.out.grow hb3)
 clear hb3 HT2 b2 b3 b4 e2 e3 e4
 have b3 := HT3.out.c 3 (.int .i64 md) rfl
 have b4 := HT3.out.c 4 (.slice s.A3 mt.length s.c3) rfl
 have e3 := HT3.out.d 3 (.int .i64 nd) rfl
 have e4 := HT3.out.d 4 (.slice t.A3 nt.length t.c3) rfl
 by_cases h3 : mi = ni
 case neg =>
  have HX := Lib.hid (mod_ne (m := ⟨mc, mp, mi, md, mt⟩) (n := ⟨mc, mp, ni, nd, nt⟩) (.inr (.inr (.inl h3))))
  rw [decide_eq_false h3]
  clear h3
  go_wp2_with fail
  go_ret
  exact boolEnd_false HX.out HT3.out.old
 rw [decide_eq_true h3]
 subst h3
 by_cases h4 : md = nd
 case neg =>
  have HX := Lib.hid (mod_ne (m := ⟨mc, mp, mi, md, mt⟩) (n := ⟨mc, mp, mi, nd, nt⟩) (.inr (.inr (.inr (.inl h4)))))
  have f1 : (md == nd) = false := by simp [h4]
  clear h4
  go_wp2_with fail
  go_ret
  exact boolEnd_false HX.out HT3.out.old
 subst h4
 go_wp2_with fail
 refine (eqWords s.A3 t.A3 s.c3 t.c3 mt nt hm3 hn3 _ (HM.out.init.later HT3.out.old (Nat.le_refl _)) (HN.out.init.later HT3.out.old (Nat.le_refl _))).mono ?_
 rintro e w4 ⟨rfl, hb4⟩
 have HT4 := Lib.hid (HT3.out.grow hb4)
 clear hb4 HT3 b3 b4 e3 e4
 have HX := Lib.hid (show decide ((⟨mc, mp, mi, md, mt⟩ : ModL) = ⟨mc, mp, mi, md, nt⟩) = decide (mt = nt) by simp)
 generalize decide (mt = nt) = dd at *
 go_wp2_with fail
 go_ret
 exact boolEnd_of HX.out.symm HT4.out.old
theorem eqUses0 (w : World) : Calls Tryz.prog 194 #[.slice none 0 0, .slice none 0 0] w fun e w' => e = .returned (.bool true) ∧ w = w' := by
 go_enter Tryz.func194, Tryz.ntmps194
 go_wp2_with fail
 go_loopg [13] 0 (fun g i wr => i = .int .i64 0 ∧ wr = w)
 case atStart => exact ⟨rfl, rfl⟩
 case round =>
  obtain ⟨rfl, rfl⟩ := hrel
  go_wp2_with fail
  go_ret
  exact ⟨rfl, rfl⟩
def objV (s : MS) (m : ModL) : Value := .agg #[.string ⟨#[]⟩, .bool false, .int .u64 0, .slice none 0 0, .string ⟨m.code.toArray⟩, .slice s.A1 m.procs.length s.c1, .slice s.A2 m.imports.length s.c2, .int .i64 m.data, .slice s.A3 m.init.length s.c3]
def objCells (s : MS) (m : ModL) : Array Value := #[.string ⟨#[]⟩, .bool false, .int .u64 0, .slice none 0 0, .string ⟨m.code.toArray⟩, .slice s.A1 m.procs.length s.c1, .slice s.A2 m.imports.length s.c2, .int .i64 m.data, .slice s.A3 m.init.length s.c3]
set_option maxHeartbeats 2000000 in
theorem objSame_any (s t : MS) (m n : ModL) (w : World) (hM : ModIn w s m) (hN : ModIn w t n) : Calls Tryz.prog 109 #[objV s m, objV t n] w (BoolEnd w (decide (m = n))) := by
 have HM := Lib.hid hM
 have HN := Lib.hid hN
 have HT := Lib.hid (Two.new w (objCells s m) (objCells t n) 157 (by decide))
 clear hM hN
 unfold objV
 go_enter Tryz.func109, Tryz.ntmps109
 go_wp2_with fail
 refine (eqUses0 _).mono ?_
 rintro e w2 ⟨rfl, rfl⟩
 go_wp2_with fail
 refine (sameModule_any s t m n _ (HM.out.later HT.out.old (Nat.le_refl _)) (HN.out.later HT.out.old (Nat.le_refl _))).mono ?_
 rintro e w2 ⟨rfl, hb2⟩
 have HT2 := Lib.hid (HT.out.grow hb2)
 clear hb2 HT
 generalize decide (m = n) = dd at *
 go_wp2_with fail
 go_ret
 exact boolEnd_of rfl HT2.out.old
set_option maxHeartbeats 1000000 in
theorem same1_any (s t : MS) (m n : ModL) (w : World) (hM : ModIn w s m) (hN : ModIn w t n) : Calls Tryz.prog 108 #[modV s m, modV t n] w (BoolEnd w (decide (m = n))) := by
 have HM := Lib.hid hM
 have HN := Lib.hid hN
 have HT := Lib.hid (Two.new w (modCells s m) (modCells t n) 68 (by decide))
 clear hM hN
 unfold modV
 go_enter Tryz.func108, Tryz.ntmps108
 go_wp2_with fail
 refine (objSame_any s t m n _ (HM.out.later HT.out.old (Nat.le_refl _)) (HN.out.later HT.out.old (Nat.le_refl _))).mono ?_
 rintro e w2 ⟨rfl, hb2⟩
 have HT2 := Lib.hid (HT.out.grow hb2)
 clear hb2 HT
 generalize decide (m = n) = dd at *
 go_wp2_with fail
 go_ret
 exact boolEnd_of rfl HT2.out.old
end Go.Proofs.YtabenhpjgjjgnaaGreatDoor
/- slices. -/
namespace Go.Proofs.YtabenhpjgjjgnaaGreatDoor
open Go.RowKit
set_option maxRecDepth 100000
theorem img_ne {i j : ImgL} (h : i.names ≠ j.names ∨ i.mods ≠ j.mods ∨ i.order ≠ j.order) : decide (i = j) = false := decide_eq_false fun e => by
 subst e
 rcases h with h | h | h <;> exact h rfl
set_option maxHeartbeats 2000000 in
theorem eqMods (A1 A2 : Option Addr) (c d : Nat) (xs ys : List ModL) (hx : xs.length ≤ 140737488355328) (hy : ys.length ≤ 140737488355328) (w : World) (h1 : Mods w A1 xs) (h2 : Mods w A2 ys) :
 Calls Tryz.prog 111 #[.slice A1 xs.length c, .slice A2 ys.length d, .func (.func 108) #[] #[]] w (BoolEnd w (decide (xs = ys))) := by
 have H1 := Lib.hid h1
 have H2 := Lib.hid h2
 clear h1 h2
 by_cases hl : xs.length = ys.length
 case neg =>
  have HX := Lib.hid (ne_of_len hl)
  have d1 : ((xs.length : Int) == (ys.length : Int)) = false := by simp; omega
  have d2 : (xs.length == ys.length) = false := by simpa using hl
  have d3 : ((xs.length : Int) != (ys.length : Int)) = true := by simp; omega
  clear hl
  go_enter Tryz.func111, Tryz.ntmps111
  go_wp2_with fail
  go_ret
  exact boolEnd_false HX.out (Below.refl _ _)
 have d1 : ((xs.length : Int) == (ys.length : Int)) = true := by simp; omega
 have d2 : (xs.length == ys.length) = true := by simpa using hl
 have d3 : ((xs.length : Int) != (ys.length : Int)) = false := by simp; omega
 have HL := Lib.hid hl
 clear hl
 go_enter Tryz.func111, Tryz.ntmps111
 go_wp2_with fail
 clear d1 d2 d3
 go_loopg [17] (xs.length) (fun g i wr => ∃ k : Nat, k + g = xs.length ∧ i = .int .i64 k ∧ xs.take k = ys.take k ∧ Below w.heap.size w wr)
 case atStart => exact ⟨0, by omega, rfl, rfl, Below.refl _ _⟩
 case round =>
  obtain ⟨k, hk, rfl, hall, hb⟩ := hrel
  have HA := Lib.hid hall
  have HB := Lib.hid hb
  clear hall
  by_cases hlt : k < xs.length
  ·have hlt2 : k < ys.length := by have := HL.out; omega
   obtain ⟨b1, o1, hA1, hbl1, s1, hM1, c0, c1, c2, c3, c4⟩ := Each.at_ (H1.out.later hb (Nat.le_refl _)) hlt
   obtain ⟨b2, o2, hA2, hbl2, s2, hM2, e0, e1, e2, e3, e4⟩ := Each.at_ (H2.out.later hb (Nat.le_refl _)) hlt2
   have HM1 := Lib.hid hM1
   have HM2 := Lib.hid hM2
   have HS := Lib.hid (fun he => eq_take_succ (xs := xs) (ys := ys) k default hlt hlt2 HA.out he)
   have HN := Lib.hid (fun he => ne_at (xs := xs) (ys := ys) k default he)
   clear hM1 hM2 hb
   subst hA1 hA2
   have hkI : (k : Int) < (xs.length : Int) := by omega
   have hkI2 : (k : Int) < (ys.length : Int) := by omega
   generalize xs.getD k default = x at *
   generalize ys.getD k default = y at *
   have HW := Lib.hid (show Below wr.heap.size wr ((wr.alloc (.cells (modCells s1 x) 68)).alloc (.cells (modCells s2 y) 68)) from ((Below.refl _ _).alloc (Nat.le_refl _) _).alloc (by simp) _)
   go_wp2_with fail
   refine (same1_any s1 s2 x y _ (HM1.out.later HW.out (Nat.le_refl _)) (HM2.out.later HW.out (Nat.le_refl _))).mono ?_
   rintro e w5 ⟨rfl, hb5⟩
   have HB5 := Lib.hid (HB.out.trans ((HW.out.trans (hb5.mono HW.out.size)).mono HB.out.size))
   clear hb5 c0 c1 c2 c3 c4 e0 e1 e2 e3 e4
   by_cases hxy : x = y
   ·have HS2 := Lib.hid (HS.out hxy)
    rw [decide_eq_true hxy]
    clear hxy
    go_wp2_with fail
    go_roundg (gk - 1)
    case measure => omega
    case rel => exact ⟨k + 1, by omega, by go_num, HS2.out, HB5.out⟩
   ·have HX := Lib.hid (HN.out hxy)
    rw [decide_eq_false hxy]
    clear hxy
    go_wp2_with fail
    go_ret
    exact boolEnd_false HX.out HB5.out
  ·obtain rfl : k = xs.length := by omega
   have HX := Lib.hid (eq_full HL.out HA.out)
   clear hb
   go_wp2_with fail
   go_ret
   exact boolEnd_of HX.out.symm HB.out
set_option maxHeartbeats 2000000 in
theorem imgSame_any (s t : IS) (i j : ImgL) (w : World) (hI : ImgIn w s i) (hJ : ImgIn w t j) : Calls Tryz.prog 45 #[imgV s i, imgV t j] w (BoolEnd w (decide (i = j))) := by
 have HI := Lib.hid hI
 have HJ := Lib.hid hJ
 have hi1 := hI.names_le
 have hi2 := hI.mods_le
 have hi3 := hI.order_le
 have hj1 := hJ.names_le
 have hj2 := hJ.mods_le
 have hj3 := hJ.order_le
 have HT := Lib.hid (Two.new w (imgCells s i) (imgCells t j) 55 (by decide))
 clear hI hJ
 obtain ⟨ns, ms, os⟩ := i
 obtain ⟨ns', ms', os'⟩ := j
 unfold imgV
 simp only at hi1 hi2 hi3 hj1 hj2 hj3 ⊢
 go_enter Tryz.func45, Tryz.ntmps45
 go_wp2_with fail
 refine (eqStrs s.A1 t.A1 s.c1 t.c1 ns ns' hi1 hj1 _ (HI.out.names.later HT.out.old (Nat.le_refl _)) (HJ.out.names.later HT.out.old (Nat.le_refl _))).mono ?_
 rintro e w2 ⟨rfl, hb2⟩
 have HT2 := Lib.hid (HT.out.grow hb2)
 clear hb2 HT
 have b1 := HT2.out.c 1 (.slice s.A2 ms.length s.c2) rfl
 have b2 := HT2.out.c 2 (.slice s.A3 os.length s.c3) rfl
 have e1 := HT2.out.d 1 (.slice t.A2 ms'.length t.c2) rfl
 have e2 := HT2.out.d 2 (.slice t.A3 os'.length t.c3) rfl
 by_cases h2 : ns = ns'
 case neg =>
  have HX := Lib.hid (img_ne (i := ⟨ns, ms, os⟩) (j := ⟨ns', ms', os'⟩) (.inl h2))
  rw [decide_eq_false h2]
  clear h2
  go_wp2_with fail
  go_ret
  exact boolEnd_false HX.out HT2.out.old
 rw [decide_eq_true h2]
 subst h2
 go_wp2_with fail
 refine (eqMods s.A2 t.A2 s.c2 t.c2 ms ms' hi2 hj2 _ (HI.out.mods.later HT2.out.old (Nat.le_refl _)) (HJ.out.mods.later HT2.out.old (Nat.le_refl _))).mono ?_
 rintro e w3 ⟨rfl, hb3⟩
 have HT3 := Lib.hid (HT2.out.grow hb3)
 clear hb3 HT2 b1 b2 e1 e2
 have b2 := HT3.out.c 2 (.slice s.A3 os.length s.c3) rfl
 have e2 := HT3.out.d 2 (.slice t.A3 os'.length t.c3) rfl
 by_cases h3 : ms = ms'
 case neg =>
  have HX := Lib.hid (img_ne (i := ⟨ns, ms, os⟩) (j := ⟨ns, ms', os'⟩) (.inr (.inl h3)))
  rw [decide_eq_false h3]
  clear h3
  go_wp2_with fail
  go_ret
  exact boolEnd_false HX.out HT3.out.old
 rw [decide_eq_true h3]
 subst h3
 go_wp2_with fail
 refine (eqInts s.A3 t.A3 s.c3 t.c3 os os' hi3 hj3 _ (HI.out.order.later HT3.out.old (Nat.le_refl _)) (HJ.out.order.later HT3.out.old (Nat.le_refl _))).mono ?_
 rintro e w4 ⟨rfl, hb4⟩
 have HT4 := Lib.hid (HT3.out.grow hb4)
 clear hb4 HT3 b2 e2
 have HX := Lib.hid (show decide ((⟨ns, ms, os⟩ : ImgL) = ⟨ns, ms, os'⟩) = decide (os = os') by simp)
 generalize decide (os = os') = dd at *
 go_wp2_with fail
 go_ret
 exact boolEnd_of HX.out.symm HT4.out.old
end Go.Proofs.YtabenhpjgjjgnaaGreatDoor
