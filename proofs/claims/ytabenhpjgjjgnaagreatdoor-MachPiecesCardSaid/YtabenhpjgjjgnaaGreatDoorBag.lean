/- A machine does an op that reckons. Closures that a machine makes. A machine's simple instructions. The shelf's contracts at this dump, laid by the kit's own tool. A machine's jumps. What a machine's jump on a word does, as a closure. Condition: what lies in memory can lie there; what each theorem says. -/
import Derived.Test.YtabenhpjgjjgnaaGreatDoorBad
import Derived.Test.YtabenhpjgjjgnaaGreatDoorBaf
import Derived.Test.YtabenhpjgjjgnaaGreatDoorProg
import Derived.Deep.QuietTactic
import Derived.BigQuiet
import Derived.Shelf.Strings.Builder1
import Derived.Shelf.Strings.Builder2
import Derived.Shelf.Small.Bits
import Derived.Shelf.Strings.BuilderF
import Derived.Shelf.Strings.BuilderK
import Derived.Shelf.Strings.Builder2Cap
import Derived.Shelf.Strconv.Itoa0
import Derived.Shelf.Strconv.Itoa1
import Derived.Shelf.LaysM
import Derived.Shelf.Strconv.Itoa2
import Derived.Shelf.Strconv.Itoa3
import Derived.Shelf.Strings.Prefix
import Derived.Shelf.Strings.Fields
import Derived.Shelf.Strings.SplitShaped
import Derived.Shelf.Unicode.Latin
import Derived.Shelf.Bits.Mul64
import Derived.Shelf.Strings.Repeat
import Derived.Shelf.Unicode.Is16White
import Derived.Shelf.Unicode.IsSpaceAny
import Derived.Shelf.Unicode.Is16WhiteD
import Derived.Shelf.Unicode.IsSpaceAnyD
import Derived.Shelf.Strings.FieldsAny
import Derived.Shelf.Strings.FieldsFuncAny
import Derived.Shelf.Unicode.Is16Any
import Derived.Shelf.Unicode.Is32Any
import Derived.Shelf.Unicode.ExclAny
import Derived.Shelf.Strings.FieldsFuncGrows
import Derived.Shelf.Strings.BuilderCap
import Derived.Shelf.Slices.Equal
import Derived.Shelf.Slices.Empties2
/- A machine does an op that reckons. -/
namespace Go.Proofs.YtabenhpjgjjgnaaGreatDoor
open Go.RowKit
set_option maxRecDepth 100000
attribute [local go_sem ↓] Go.wp_at_zero Go.wp_at_succ
theorem bits_range (o : BinOp) (x y : Int) : 0 ≤ bits o .u16 x y ∧ bits o .u16 x y ≤ 65535 := by
 unfold bits
 simp only [IntKind.wrap_u16]
 omega
theorem fitsI_range (n lo hi : Int) : 0 ≤ (fitsI n lo hi).1 ∧ (fitsI n lo hi).1 ≤ 65535 := by
 unfold fitsI
 split <;> simp only <;> omega
theorem overI_range (n : Int) (r : Int × Nat) (h : 0 ≤ r.1 ∧ r.1 ≤ 65535) : 0 ≤ (overI n r).1 ∧ (overI n r).1 ≤ 65535 := by
 unfold overI
 split
 ·simp
 ·exact h
theorem isI_range (b : Bool) : 0 ≤ (isI b).1 ∧ (isI b).1 ≤ 65535 := by cases b <;> simp [isI]
theorem rowS_range (a k : Nat) : 0 ≤ rowS a k ∧ rowS a k ≤ 65535 := by
 cases k with
 | zero => unfold rowS; omega
 | succ k => unfold rowS; exact bits_range _ _ _
theorem rowI_range (a b : Nat) : 0 ≤ (rowI a b).1 ∧ (rowI a b).1 ≤ 65535 := by
 unfold rowI
 split
 ·simp
 ·exact rowS_range _ _
theorem opI_range (n a b : Nat) : 0 ≤ (opI n a b).1 ∧ (opI n a b).1 ≤ 65535 := by
 unfold opI
 split
 all_goals first | exact fitsI_range _ _ _ | exact overI_range _ _ (fitsI_range _ _ _) | exact isI_range _ | exact rowI_range _ _ | (simp only; exact bits_range _ _ _) | simp
theorem does_all (n : Nat) (h1 : 1 ≤ n) (h2 : n ≤ 31) (a b : Nat) (ha : a < 65536) (hb : b < 65536) (W : World) : Calls Tryz.prog 130 #[.int .u8 n, .int .u16 a, .int .u16 b] W (WtEnd W (opI n a b)) := by
 have : n = 1 ∨ n = 2 ∨ n = 3 ∨ n = 4 ∨ n = 5 ∨ n = 6 ∨ n = 7 ∨ n = 8 ∨ n = 9 ∨ n = 10 ∨ n = 11 ∨ n = 12 ∨ n = 13 ∨ n = 14 ∨ n = 15 ∨ n = 16 ∨ n = 17 ∨ n = 18 ∨ n = 19 ∨ n = 20 ∨ n = 21 ∨ n = 22 ∨ n = 23 ∨ n = 24 ∨ n = 25 ∨ n = 26 ∨ n = 27 ∨ n = 28 ∨ n = 29 ∨ n = 30 ∨ n = 31 := by omega
 rcases this with rfl | rfl | rfl | rfl | rfl | rfl | rfl | rfl | rfl | rfl | rfl | rfl | rfl | rfl | rfl | rfl | rfl | rfl | rfl | rfl | rfl | rfl | rfl | rfl | rfl | rfl | rfl | rfl | rfl | rfl | rfl
 ·exact doesOf1 a b ha hb W
 ·exact doesOf2 a b ha hb W
 ·exact doesOf3 a b ha hb W
 ·exact doesOf4 a b ha hb W
 ·exact doesOf5 a b ha hb W
 ·exact doesOf6 a b ha hb W
 ·exact doesOf7 a b ha hb W
 ·exact doesOf8 a b ha hb W
 ·exact doesOf9 a b ha hb W
 ·exact doesOf10 a b ha hb W
 ·exact doesOf11 a b ha hb W
 ·exact doesOf12 a b ha hb W
 ·exact doesOf13 a b ha hb W
 ·exact doesOf14 a b ha hb W
 ·exact doesOf15 a b ha hb W
 ·exact doesOf16 a b ha hb W
 ·exact doesOf17 a b ha hb W
 ·exact doesOf18 a b ha hb W
 ·exact doesOf19 a b ha hb W
 ·exact doesOf20 a b ha hb W
 ·exact doesOf21 a b ha hb W
 ·exact doesOf22 a b ha hb W
 ·exact doesOf23 a b ha hb W
 ·exact doesOf24 a b ha hb W
 ·exact doesOf25 a b ha hb W
 ·exact doesOf26 a b ha hb W
 ·exact doesOf27 a b ha hb W
 ·exact doesOf28 a b ha hb W
 ·exact doesOf29 a b ha hb W
 ·exact doesOf30 a b ha hb W
 ·exact doesOf31 a b ha hb W
theorem hereP_same {K : MK} {S S' : St} (h1 : S'.mod = S.mod) (h2 : S'.proc = S.proc) : hereP K S' = hereP K S := by unfold hereP modOf; rw [h1, h2]
theorem popsM_ok {K : MK} {S : St} (s : SOk K S) (n : Nat) : SOk K (popsM K n S).1 := by
 unfold popsM
 split
 ·exact s
 ·rename_i h
  have e : hereP K { S with sp := S.sp - n } = hereP K S := hereP_same rfl rfl
  refine ⟨⟨s.mod0, s.mod1, s.proc0, s.proc1⟩, s.fp1, ?_, ?_, ?_⟩
  ·rw [e]; unfold floorN at h; simp only; omega
  ·rw [e]; have := s.sp1; simp only; omega
  ·rw [e]; exact s.top
def opR (K : MK) (n j : Nat) (r : St × List Nat × Nat) : St × Nat :=
 if r.2.2 ≠ 0 then (r.1, r.2.2)
 else if (opI n (r.2.1.getD 0 0) (r.2.1.getD (j - 1) 0)).2 ≠ 0 then (r.1, (opI n (r.2.1.getD 0 0) (r.2.1.getD (j - 1) 0)).2)
 else pushM K (opI n (r.2.1.getD 0 0) (r.2.1.getD (j - 1) 0)).1.toNat r.1
def opM (K : MK) (n j : Nat) (S : St) : St × Nat := opR K n j (popsM K j S)
theorem word_cells {bs : List Nat} {W : World} {A : Option Addr} {l : List Nat} (h : Words (mask bs W) A l) (hl : 0 < l.length) : ∃ b o, A = some ⟨b, o, none⟩ ∧ ∀ j, j < l.length → W.cell? ⟨b, o + j, none⟩ = some (.int .u16 (l.getD j 0)) ∧ l.getD j 0 < 65536 := by
 have h := h.reads (mask_reads bs W)
 obtain ⟨b, o, rfl, _, _⟩ := h.at_ hl
 refine ⟨b, o, rfl, fun j hj => ?_⟩
 obtain ⟨b', o', e, _, hc⟩ := h.at_ hj
 cases e
 simpa using hc
set_option maxHeartbeats 1000000 in
theorem op1_any (K : MK) (k : KOk K) (S : St) (s : SOk K S) (n : Nat) (h1 : 1 ≤ n) (h2 : n ≤ 31) (W : World) (h : At K S W) : Calls Tryz.prog 65 #[.pointer (some ⟨K.b, 0, none⟩), .int .u8 n, .int .i64 1] W (OpEnd K W (opM K n 1 S)) := by
 have H := Lib.hid h
 have HS := Lib.hid (popsM_ok s 1)
 have HP := Lib.hid (show opM K n 1 S = opR K n 1 (popsM K 1 S) from rfl)
 have hlen := popsM_len K 1 S
 have HC := Lib.hid (pops_any K k S s 1 (by omega) W h)
 clear h
 go_enter Tryz.func65, Tryz.ntmps65
 go_wp2_with fail
 refine (HC.out).mono ?_
 rintro e w1 ⟨A, c, rfl, hW, hA, ho⟩
 generalize popsM K 1 S = r at *
 obtain ⟨S1, l, t⟩ := r
 simp only at hlen hW hA HS
 have HA := Lib.hid hA
 have HO := Lib.hid ho
 obtain ⟨b, o, rfl, hc⟩ := word_cells hW (by omega)
 clear hA ho hW HC
 rw [hlen]
 dsimp only
 by_cases ht : t = 0
 ·subst ht
  have hX0 : opM K n 1 S = if (opI n (l.getD 0 0) (l.getD 0 0)).2 ≠ 0 then (S1, (opI n (l.getD 0 0) (l.getD 0 0)).2) else pushM K (opI n (l.getD 0 0) (l.getD 0 0)).1.toNat S1 := by
   rw [HP.out, opR, if_neg (by simp)]
  have HX := Lib.hid hX0
  clear hX0
  obtain ⟨hc0, hr0⟩ := hc 0 (by omega)
  clear HP
  generalize l.getD 0 0 = x0 at *
  clear hc hlen
  simp only [Nat.add_zero] at hc0
  have HD := Lib.hid (fun x : Gr => show Calls Tryz.prog 130 #[.int .u8 n, .int .u16 x0, .int .u16 x0] (growN w1 x) (fun e w' => e = .returned (.tuple #[.int .u16 (opI n x0 x0).1, .int .u8 ((opI n x0 x0).2 : Nat)]) ∧ Below (growN w1 x).heap.size (growN w1 x) w') from does_all n h1 h2 x0 x0 hr0 hr0 _)
  have hlt : b < w1.heap.size := lt_of_cell hc0
  have hop := opI_range n x0 x0
  generalize opI n x0 x0 = rr at *
  obtain ⟨y, t⟩ := rr
  simp only at hop
  obtain ⟨z, rfl⟩ : ∃ z : Nat, y = z := ⟨y.toNat, by omega⟩
  go_wp2_with fail
  refine wp_region_grow (by kernel_rfl) (by kernel_rfl) ?_
  repeat (first | go_big_quiet_step (first | (go_at_call 130; refine quiet_grow (HD.out _))))
  refine wpQuiet_nil ?_
  rintro _ ⟨gx, rfl⟩
  have H1 := Lib.hid (HA.out.grow (growN_below w1 gx))
  have HO1 := Lib.hid (HO.out.trans (Only.of_below (bs := K.bs) (growN_below w1 gx)))
  clear HA HO HD hc0 hlt H
  generalize growN w1 gx = w2 at *
  by_cases ht : t = 0
  ·subst ht
   go_wp2_with fail
   refine (push_any K k S1 HS.out z (by omega) w2 H1.out).mono ?_
   rintro e w3 ⟨rfl, h3, ho3⟩
   go_wp2_with fail
   go_ret
   rw [HX.out, if_neg (by simp)]
   exact ⟨rfl, h3, HO1.out.trans ho3⟩
  ·have d := bne_iff_ne.2 (show (t : Int) ≠ 0 by omega)
   go_wp2_with fail
   go_ret
   rw [HX.out, if_pos ht]
   exact ⟨rfl, H1.out, HO1.out⟩
 ·have d := bne_iff_ne.2 (show (t : Int) ≠ 0 by omega)
  go_wp2_with fail
  go_ret
  rw [HP.out, opR, if_pos ht]
  exact ⟨rfl, HA.out, HO.out⟩
set_option maxHeartbeats 1000000 in
theorem op2_any (K : MK) (k : KOk K) (S : St) (s : SOk K S) (n : Nat) (h1 : 1 ≤ n) (h2 : n ≤ 31) (W : World) (h : At K S W) : Calls Tryz.prog 65 #[.pointer (some ⟨K.b, 0, none⟩), .int .u8 n, .int .i64 2] W (OpEnd K W (opM K n 2 S)) := by
 have H := Lib.hid h
 have HS := Lib.hid (popsM_ok s 2)
 have HP := Lib.hid (show opM K n 2 S = opR K n 2 (popsM K 2 S) from rfl)
 have hlen := popsM_len K 2 S
 have HC := Lib.hid (pops_any K k S s 2 (by omega) W h)
 clear h
 go_enter Tryz.func65, Tryz.ntmps65
 go_wp2_with fail
 refine (HC.out).mono ?_
 rintro e w1 ⟨A, c, rfl, hW, hA, ho⟩
 generalize popsM K 2 S = r at *
 obtain ⟨S1, l, t⟩ := r
 simp only at hlen hW hA HS
 have HA := Lib.hid hA
 have HO := Lib.hid ho
 obtain ⟨b, o, rfl, hc⟩ := word_cells hW (by omega)
 clear hA ho hW HC
 rw [hlen]
 dsimp only
 by_cases ht : t = 0
 ·subst ht
  have hX0 : opM K n 2 S = if (opI n (l.getD 0 0) (l.getD 1 0)).2 ≠ 0 then (S1, (opI n (l.getD 0 0) (l.getD 1 0)).2) else pushM K (opI n (l.getD 0 0) (l.getD 1 0)).1.toNat S1 := by
   rw [HP.out, opR, if_neg (by simp)]
  have HX := Lib.hid hX0
  clear hX0
  obtain ⟨hc0, hr0⟩ := hc 0 (by omega)
  obtain ⟨hc1, hr1⟩ := hc 1 (by omega)
  clear HP
  generalize l.getD 0 0 = x0 at *
  generalize l.getD 1 0 = x1 at *
  clear hc hlen
  simp only [Nat.add_zero] at hc0
  have HD := Lib.hid (fun x : Gr => show Calls Tryz.prog 130 #[.int .u8 n, .int .u16 x0, .int .u16 x1] (growN w1 x) (fun e w' => e = .returned (.tuple #[.int .u16 (opI n x0 x1).1, .int .u8 ((opI n x0 x1).2 : Nat)]) ∧ Below (growN w1 x).heap.size (growN w1 x) w') from does_all n h1 h2 x0 x1 hr0 hr1 _)
  have hlt : b < w1.heap.size := lt_of_cell hc0
  have hop := opI_range n x0 x1
  generalize opI n x0 x1 = rr at *
  obtain ⟨y, t⟩ := rr
  simp only at hop
  obtain ⟨z, rfl⟩ : ∃ z : Nat, y = z := ⟨y.toNat, by omega⟩
  go_wp2_with fail
  refine wp_region_grow (by kernel_rfl) (by kernel_rfl) ?_
  repeat (first | go_big_quiet_step (first | (go_at_call 130; refine quiet_grow (HD.out _))))
  refine wpQuiet_nil ?_
  rintro _ ⟨gx, rfl⟩
  have H1 := Lib.hid (HA.out.grow (growN_below w1 gx))
  have HO1 := Lib.hid (HO.out.trans (Only.of_below (bs := K.bs) (growN_below w1 gx)))
  clear HA HO HD hc0 hlt H hc1
  generalize growN w1 gx = w2 at *
  by_cases ht : t = 0
  ·subst ht
   go_wp2_with fail
   refine (push_any K k S1 HS.out z (by omega) w2 H1.out).mono ?_
   rintro e w3 ⟨rfl, h3, ho3⟩
   go_wp2_with fail
   go_ret
   rw [HX.out, if_neg (by simp)]
   exact ⟨rfl, h3, HO1.out.trans ho3⟩
  ·have d := bne_iff_ne.2 (show (t : Int) ≠ 0 by omega)
   go_wp2_with fail
   go_ret
   rw [HX.out, if_pos ht]
   exact ⟨rfl, H1.out, HO1.out⟩
 ·have d := bne_iff_ne.2 (show (t : Int) ≠ 0 by omega)
  go_wp2_with fail
  go_ret
  rw [HP.out, opR, if_pos ht]
  exact ⟨rfl, HA.out, HO.out⟩
end Go.Proofs.YtabenhpjgjjgnaaGreatDoor
/- Closures that a machine makes. -/
namespace Go.Proofs.YtabenhpjgjjgnaaGreatDoor
open Go.RowKit
set_option maxRecDepth 100000
attribute [local go_sem ↓] Go.wp_at_zero Go.wp_at_succ
def MadeFn (W : World) (f : FuncId) (u v : Value) (e : Ending) (w' : World) : Prop := ∃ x y : Nat, e = .returned (.func (.func f) #[] #[.pointer (some ⟨x, 0, none⟩), .pointer (some ⟨y, 0, none⟩)]) ∧ W.heap.size ≤ x ∧ W.heap.size ≤ y ∧
 w'.cell? ⟨x, 0, none⟩ = some u ∧ w'.cell? ⟨y, 0, none⟩ = some v ∧ Below W.heap.size W w'
theorem made_two (W : World) (f : FuncId) (u v : Value) (T1 T2 : TypeId) : MadeFn W f u v (.returned (.func (.func f) #[] #[.pointer (some ⟨W.heap.size, 0, none⟩), .pointer (some ⟨W.heap.size + 1, 0, none⟩)])) ((W.alloc (.cells #[u] T1)).alloc (.cells #[v] T2)) := by
 refine ⟨_, _, rfl, Nat.le_refl _, Nat.le_succ _, ?_, ?_, ((Below.refl _ _).alloc (Nat.le_refl _) _).alloc (by simp) _⟩
 ·exact ((Bx.grow (Bx.new W #[u] T1) (alloc_below _ (.cells #[v] T2))).cell 0).trans rfl
 ·simp
theorem texts_mk (b : Nat) (z : Bool) (W : World) : Calls Tryz.prog 98 #[.pointer (some ⟨b, 0, none⟩), .bool z] W (MadeFn W 162 (.pointer (some ⟨b, 0, none⟩)) (.bool z)) := by
 go_enter Tryz.func98, Tryz.ntmps98
 go_wp2_with fail
 go_ret
 exact made_two _ _ _ _ _ _
theorem jumps_mk (b : Nat) (z : Bool) (W : World) : Calls Tryz.prog 81 #[.pointer (some ⟨b, 0, none⟩), .bool z] W (MadeFn W 146 (.pointer (some ⟨b, 0, none⟩)) (.bool z)) := by
 go_enter Tryz.func81, Tryz.ntmps81
 go_wp2_with fail
 go_ret
 exact made_two _ _ _ _ _ _
theorem keeps_mk (b : Nat) (z : Bool) (W : World) : Calls Tryz.prog 82 #[.pointer (some ⟨b, 0, none⟩), .bool z] W (MadeFn W 147 (.pointer (some ⟨b, 0, none⟩)) (.bool z)) := by
 go_enter Tryz.func82, Tryz.ntmps82
 go_wp2_with fail
 go_ret
 exact made_two _ _ _ _ _ _
theorem global_mk (b : Nat) (g : Fn) (a c : Array Value) (W : World) : Calls Tryz.prog 67 #[.pointer (some ⟨b, 0, none⟩), .func g a c] W (MadeFn W 132 (.pointer (some ⟨b, 0, none⟩)) (.func g a c)) := by
 go_enter Tryz.func67, Tryz.ntmps67
 go_wp2_with fail
 go_ret
 exact made_two _ _ _ _ _ _
theorem local_mk (b : Nat) (g : Fn) (a c : Array Value) (W : World) : Calls Tryz.prog 71 #[.pointer (some ⟨b, 0, none⟩), .func g a c] W (MadeFn W 134 (.pointer (some ⟨b, 0, none⟩)) (.func g a c)) := by
 go_enter Tryz.func71, Tryz.ntmps71
 go_wp2_with fail
 go_ret
 exact made_two _ _ _ _ _ _
end Go.Proofs.YtabenhpjgjjgnaaGreatDoor
/- A machine's simple instructions. -/
namespace Go.Proofs.YtabenhpjgjjgnaaGreatDoor
open Go.RowKit
set_option maxRecDepth 100000
theorem At.argsCell {K : MK} {S : St} {W : World} (h : At K S W) : ∃ A c, W.cell? ⟨K.b, 16, none⟩ = some (.slice A S.args.length c) ∧ Ints W A S.args := by
 obtain ⟨A, c, h1, h2⟩ := h.box
 exact ⟨A, c, (h1.cell 16).trans rfl, h2.1.reads (mask_reads _ _)⟩
theorem At.argsCap {K : MK} {S : St} {W : World} (h : At K S W) {A : Option Addr} {n c : Nat} (hc : W.cell? ⟨K.b, 16, none⟩ = some (.slice A n c)) : n ≤ c := by
 obtain ⟨A', c', h1, h2⟩ := h.box
 have e := ((h1.cell 16).trans rfl).symm.trans hc
 cases e
 exact h2.2
theorem At.arg {K : MK} {S : St} {W : World} (h : At K S W) {j : Nat} (hj : j < S.args.length) : ∃ b o c, W.cell? ⟨K.b, 16, none⟩ = some (.slice (some ⟨b, o, none⟩) S.args.length c) ∧ b < W.heap.size ∧ W.cell? ⟨b, o + j, none⟩ = some (.int .i64 (S.args.getD j 0)) := by
 obtain ⟨A, c, h1, h2⟩ := h.argsCell
 obtain ⟨b, o, rfl, hb, hc⟩ := h2.at_ hj
 exact ⟨b, o, c, h1, hb, by simpa using hc⟩
def w16 (x : Int) : Nat := (x % 65536).toNat
theorem w16_lt (x : Int) : w16 x < 65536 := by unfold w16; omega
theorem w16_cast (x : Int) : IntKind.u16.wrap x = ((w16 x : Nat) : Int) := by rw [IntKind.wrap_u16]; unfold w16; omega
def litM (K : MK) (S : St) : St × Nat := pushM K (w16 (S.args.getD 0 0)) S
theorem lit_any (K : MK) (k : KOk K) (S : St) (s : SOk K S) (ha : 0 < S.args.length) (W : World) (h : At K S W) : Calls Tryz.prog 66 #[.pointer (some ⟨K.b, 0, none⟩)] W (OpEnd K W (litM K S)) := by
 have H := Lib.hid h
 obtain ⟨b, o, c, m16, hb, hc⟩ := h.arg ha
 have hl : (0 : Int) < (S.args.length : Int) := by omega
 clear h
 have HL := Lib.hid (show litM K S = pushM K (w16 (S.args.getD 0 0)) S from rfl)
 have hx := w16_lt (S.args.getD 0 0)
 have HC := Lib.hid (w16_cast (S.args.getD 0 0))
 generalize S.args.getD 0 0 = a0 at *
 simp only [Nat.add_zero] at hc
 go_enter Tryz.func66, Tryz.ntmps66
 go_wp2_with fail
 rw [HC.out]
 refine (push_any K k S s (w16 a0) hx W H.out).mono ?_
 rintro e w1 ⟨rfl, h1, ho1⟩
 go_wp2_with fail
 go_ret
 rw [HL.out]
 exact ⟨rfl, h1, ho1⟩
end Go.Proofs.YtabenhpjgjjgnaaGreatDoor
/- The shelf's contracts at this dump, laid by the kit's own tool. -/
namespace Go.Proofs
open Go.Shelf
def Tryz.lays125_ren : Go.Shelf.Ren := ⟨fun | 125 => 249 | 128 => 315 | 129 => 316 | n => n, fun | 46 => 108 | 3 => 3 | 51 => 292 | 53 => 104 | 4 => 4 | 5 => 5 | 9 => 9 | n => n, fun | n => n⟩
theorem Tryz.lays125 : Go.Proofs.Lays.n125 Tryz.prog Tryz.lays125_ren := {
 mixed := by kernel_rfl
 f125 := Tryz.func249.trans (congrArg some (by kernel_rfl))
 f128 := Tryz.func315.trans (congrArg some (by kernel_rfl))
 f129 := Tryz.func316.trans (congrArg some (by kernel_rfl))
 t3 := Tryz.underlying3
 a3 := Tryz.isAgg3
 z3 := Tryz.sizeOf3
 v3 := Tryz.zeroValue3
 t4 := Tryz.underlying4
 a4 := Tryz.isAgg4
 z4 := Tryz.sizeOf4
 v4 := Tryz.zeroValue4
 t5 := Tryz.underlying5
 a5 := Tryz.isAgg5
 z5 := Tryz.sizeOf5
 v5 := Tryz.zeroValue5
 t9 := Tryz.underlying9
 a9 := Tryz.isAgg9
 z9 := Tryz.sizeOf9
 v9 := Tryz.zeroValue9
 t46 := Tryz.underlying108
 a46 := Tryz.isAgg108
 z46 := Tryz.sizeOf108
 v46 := Tryz.zeroValue108
 t51 := Tryz.underlying292
 a51 := Tryz.isAgg292
 z51 := Tryz.sizeOf292
 v51 := Tryz.zeroValue292
 t53 := Tryz.underlying104
 a53 := Tryz.isAgg104
 z53 := Tryz.sizeOf104
 v53 := Tryz.zeroValue104 }
theorem Tryz.bits_Len (x : Int) (w : World) (h0 : 0 ≤ x) (h1 : x ≤ 18446744073709551615) :
 Calls Tryz.prog 249 #[.int .u64 x] w fun e w' => e = .returned (.int .i64 (Lib.bitLen x.toNat)) ∧ w' = w := Any.bits_Len Tryz.lays125 x w h0 h1
def Tryz.laysM171_ren : Go.Shelf.Ren := ⟨fun | 171 => 216 | 243 => 301 | 246 => 327 | 283 => 338 | 284 => 339 | 285 => 340 | 286 => 341 | 129 => 316 | 317 => 353 | 318 => 354 | 319 => 355 | 320 => 356 | 337 => 360 | 338 => 361 | n => n, fun | 3 => 3 | 9 => 9 | 2 => 2 | 4 => 4 | 171 => 319 | 0 => 0 | 53 => 104 | 37 => 61 | 5 => 5 | 173 => 321 | 212 => 341 | 51 => 292 | 20 => 20 | 213 => 342 | 46 => 108 | 232 => 348 | 233 => 349 | n => n, fun | 17 => 3 | 18 => 4 | 19 => 5 | n => n⟩
theorem Tryz.laysM171 : Go.Proofs.LaysM.n171 Tryz.prog Tryz.laysM171_ren := {
 mixed := by kernel_rfl
 f129 := Tryz.func316.trans (congrArg some (by kernel_rfl))
 f171 := Tryz.func216.trans (congrArg some (by kernel_rfl))
 f243 := Tryz.func301.trans (congrArg some (by kernel_rfl))
 f246 := Tryz.func327.trans (congrArg some (by kernel_rfl))
 f283 := Tryz.func338.trans (congrArg some (by kernel_rfl))
 f284 := Tryz.func339.trans (congrArg some (by kernel_rfl))
 f285 := Tryz.func340.trans (congrArg some (by kernel_rfl))
 f286 := Tryz.func341.trans (congrArg some (by kernel_rfl))
 f317 := Tryz.func353.trans (congrArg some (by kernel_rfl))
 f318 := Tryz.func354.trans (congrArg some (by kernel_rfl))
 f319 := Tryz.func355.trans (congrArg some (by kernel_rfl))
 f320 := Tryz.func356.trans (congrArg some (by kernel_rfl))
 f337 := Tryz.func360.trans (congrArg some (by kernel_rfl))
 f338 := Tryz.func361.trans (congrArg some (by kernel_rfl))
 t0 := Tryz.underlying0
 a0 := Tryz.isAgg0
 z0 := Tryz.sizeOf0
 v0 := Tryz.zeroValue0
 t2 := Tryz.underlying2
 a2 := Tryz.isAgg2
 z2 := Tryz.sizeOf2
 v2 := Tryz.zeroValue2
 t3 := Tryz.underlying3
 a3 := Tryz.isAgg3
 z3 := Tryz.sizeOf3
 v3 := Tryz.zeroValue3
 t4 := Tryz.underlying4
 a4 := Tryz.isAgg4
 z4 := Tryz.sizeOf4
 v4 := Tryz.zeroValue4
 t5 := Tryz.underlying5
 a5 := Tryz.isAgg5
 z5 := Tryz.sizeOf5
 v5 := Tryz.zeroValue5
 t9 := Tryz.underlying9
 a9 := Tryz.isAgg9
 z9 := Tryz.sizeOf9
 v9 := Tryz.zeroValue9
 t20 := Tryz.underlying20
 a20 := Tryz.isAgg20
 z20 := Tryz.sizeOf20
 v20 := Tryz.zeroValue20
 t37 := Tryz.underlying61
 a37 := Tryz.isAgg61
 z37 := Tryz.sizeOf61
 v37 := Tryz.zeroValue61
 t46 := Tryz.underlying108
 a46 := Tryz.isAgg108
 z46 := Tryz.sizeOf108
 v46 := Tryz.zeroValue108
 t51 := Tryz.underlying292
 a51 := Tryz.isAgg292
 z51 := Tryz.sizeOf292
 v51 := Tryz.zeroValue292
 t53 := Tryz.underlying104
 a53 := Tryz.isAgg104
 z53 := Tryz.sizeOf104
 v53 := Tryz.zeroValue104
 t171 := Tryz.underlying319
 a171 := Tryz.isAgg319
 z171 := Tryz.sizeOf319
 v171 := Tryz.zeroValue319
 t173 := Tryz.underlying321
 a173 := Tryz.isAgg321
 z173 := Tryz.sizeOf321
 v173 := Tryz.zeroValue321
 t212 := Tryz.underlying341
 a212 := Tryz.isAgg341
 z212 := Tryz.sizeOf341
 v212 := Tryz.zeroValue341
 t213 := Tryz.underlying342
 a213 := Tryz.isAgg342
 z213 := Tryz.sizeOf342
 t232 := Tryz.underlying348
 a232 := Tryz.isAgg348
 z232 := Tryz.sizeOf348
 v232 := Tryz.zeroValue348
 t233 := Tryz.underlying349
 a233 := Tryz.isAgg349
 z233 := Tryz.sizeOf349
 v233 := Tryz.zeroValue349
 g17 := by kernel_rfl
 g18 := by kernel_rfl
 g19 := by kernel_rfl
 i0 := by kernel_rfl
 i2 := by kernel_rfl
 i3 := by kernel_rfl
 i4 := by kernel_rfl
 i5 := by kernel_rfl
 i9 := by kernel_rfl
 i20 := by kernel_rfl
 i37 := by kernel_rfl
 i46 := by kernel_rfl
 i51 := by kernel_rfl
 i53 := by kernel_rfl
 i171 := by kernel_rfl
 i173 := by kernel_rfl
 i212 := by kernel_rfl
 i232 := by kernel_rfl
 i233 := by kernel_rfl
 m17 := by kernel_rfl
 m18 := by kernel_rfl
 m19 := by kernel_rfl }
open Go.RowKit Go.Sort Go.Lib in
theorem Tryz.strconv_Itoa (n : Int) (h0 : -9223372036854775808 ≤ n) (h1 : n ≤ 9223372036854775807) (w : World) (htab : Lib.TabIs Tryz.prog w "internal/strconv.uint64pow10" .u64 Lib.pow10Tab) :
 Calls Tryz.prog 216 #[.int .i64 n] w fun e w' => e = .returned (.string ⟨(Lib.itoa n).toArray⟩) ∧ ∃ k os, w' = grow (w.drewN k) os := Any.strconv_Itoa Tryz.laysM171 n h0 h1 w htab
def Tryz.lays157_ren : Go.Shelf.Ren := ⟨fun | 157 => 250 | 229 => 317 | 199 => 318 | 261 => 334 | 311 => 343 | 312 => 344 | n => n, fun | 9 => 9 | 31 => 53 | 3 => 3 | 5 => 5 | 4 => 4 | 119 => 294 | 0 => 0 | 40 => 296 | 152 => 311 | 21 => 21 | 154 => 313 | 51 => 292 | 141 => 315 | 196 => 328 | 193 => 325 | 198 => 330 | 49 => 50 | 194 => 326 | 201 => 333 | 226 => 343 | 46 => 108 | 227 => 344 | n => n, fun | 0 => 0 | 6 => 1 | n => n⟩
theorem Tryz.lays157 : Go.Proofs.Lays.n157 Tryz.prog Tryz.lays157_ren := {
 mixed := by kernel_rfl
 f157 := Tryz.func250.trans (congrArg some (by kernel_rfl))
 f199 := Tryz.func318.trans (congrArg some (by kernel_rfl))
 f229 := Tryz.func317.trans (congrArg some (by kernel_rfl))
 f261 := Tryz.func334.trans (congrArg some (by kernel_rfl))
 f311 := Tryz.func343.trans (congrArg some (by kernel_rfl))
 f312 := Tryz.func344.trans (congrArg some (by kernel_rfl))
 t0 := Tryz.underlying0
 a0 := Tryz.isAgg0
 z0 := Tryz.sizeOf0
 v0 := Tryz.zeroValue0
 t3 := Tryz.underlying3
 a3 := Tryz.isAgg3
 z3 := Tryz.sizeOf3
 v3 := Tryz.zeroValue3
 t4 := Tryz.underlying4
 a4 := Tryz.isAgg4
 z4 := Tryz.sizeOf4
 v4 := Tryz.zeroValue4
 t5 := Tryz.underlying5
 a5 := Tryz.isAgg5
 z5 := Tryz.sizeOf5
 v5 := Tryz.zeroValue5
 t9 := Tryz.underlying9
 a9 := Tryz.isAgg9
 z9 := Tryz.sizeOf9
 v9 := Tryz.zeroValue9
 t21 := Tryz.underlying21
 a21 := Tryz.isAgg21
 z21 := Tryz.sizeOf21
 v21 := Tryz.zeroValue21
 t31 := Tryz.underlying53
 a31 := Tryz.isAgg53
 z31 := Tryz.sizeOf53
 v31 := Tryz.zeroValue53
 t40 := Tryz.underlying296
 a40 := Tryz.isAgg296
 z40 := Tryz.sizeOf296
 v40 := Tryz.zeroValue296
 t46 := Tryz.underlying108
 a46 := Tryz.isAgg108
 z46 := Tryz.sizeOf108
 v46 := Tryz.zeroValue108
 t49 := Tryz.underlying50
 a49 := Tryz.isAgg50
 z49 := Tryz.sizeOf50
 v49 := Tryz.zeroValue50
 t51 := Tryz.underlying292
 a51 := Tryz.isAgg292
 z51 := Tryz.sizeOf292
 v51 := Tryz.zeroValue292
 t119 := Tryz.underlying294
 a119 := Tryz.isAgg294
 z119 := Tryz.sizeOf294
 t141 := Tryz.underlying315
 a141 := Tryz.isAgg315
 z141 := Tryz.sizeOf315
 v141 := Tryz.zeroValue315
 t152 := Tryz.underlying311
 a152 := Tryz.isAgg311
 z152 := Tryz.sizeOf311
 v152 := Tryz.zeroValue311
 t154 := Tryz.underlying313
 a154 := Tryz.isAgg313
 z154 := Tryz.sizeOf313
 v154 := Tryz.zeroValue313
 t193 := Tryz.underlying325
 a193 := Tryz.isAgg325
 z193 := Tryz.sizeOf325
 v193 := Tryz.zeroValue325
 t194 := Tryz.underlying326
 a194 := Tryz.isAgg326
 z194 := Tryz.sizeOf326
 v194 := Tryz.zeroValue326
 t196 := Tryz.underlying328
 a196 := Tryz.isAgg328
 z196 := Tryz.sizeOf328
 v196 := Tryz.zeroValue328
 t198 := Tryz.underlying330
 a198 := Tryz.isAgg330
 z198 := Tryz.sizeOf330
 v198 := Tryz.zeroValue330
 t201 := Tryz.underlying333
 a201 := Tryz.isAgg333
 z201 := Tryz.sizeOf333
 v201 := Tryz.zeroValue333
 t226 := Tryz.underlying343
 a226 := Tryz.isAgg343
 z226 := Tryz.sizeOf343
 v226 := Tryz.zeroValue343
 t227 := Tryz.underlying344
 a227 := Tryz.isAgg344
 z227 := Tryz.sizeOf344
 v227 := Tryz.zeroValue344
 g0 := by kernel_rfl
 g6 := by kernel_rfl }
def Tryz.lays105_ren : Go.Shelf.Ren := ⟨fun | 105 => 210 | 212 => 251 | 99 => 252 | 165 => 253 | 166 => 106 | 170 => 254 | 169 => 107 | 263 => 319 | 264 => 320 | 206 => 321 | 240 => 189 | 241 => 322 | 276 => 242 | 277 => 335 | n => n, fun | 9 => 9 | 3 => 3 | 4 => 4 | 20 => 20 | 0 => 0 | 46 => 108 | 109 => 265 | 5 => 5 | 72 => 147 | 76 => 152 | 51 => 292 | 146 => 297 | 53 => 104 | 148 => 299 | 70 => 145 | 37 => 61 | 75 => 149 | 127 => 218 | 164 => 256 | 80 => 59 | n => n, fun | n => n⟩
theorem Tryz.lays105 : Go.Proofs.Lays.n105 Tryz.prog Tryz.lays105_ren := {
 mixed := by kernel_rfl
 f99 := Tryz.func252.trans (congrArg some (by kernel_rfl))
 f105 := Tryz.func210.trans (congrArg some (by kernel_rfl))
 f165 := Tryz.func253.trans (congrArg some (by kernel_rfl))
 f166 := Tryz.func106.trans (congrArg some (by kernel_rfl))
 f169 := Tryz.func107.trans (congrArg some (by kernel_rfl))
 f170 := Tryz.func254.trans (congrArg some (by kernel_rfl))
 f206 := Tryz.func321.trans (congrArg some (by kernel_rfl))
 f212 := Tryz.func251.trans (congrArg some (by kernel_rfl))
 f240 := Tryz.func189.trans (congrArg some (by kernel_rfl))
 f241 := Tryz.func322.trans (congrArg some (by kernel_rfl))
 f263 := Tryz.func319.trans (congrArg some (by kernel_rfl))
 f264 := Tryz.func320.trans (congrArg some (by kernel_rfl))
 f276 := Tryz.func242.trans (congrArg some (by kernel_rfl))
 f277 := Tryz.func335.trans (congrArg some (by kernel_rfl))
 t0 := Tryz.underlying0
 a0 := Tryz.isAgg0
 z0 := Tryz.sizeOf0
 v0 := Tryz.zeroValue0
 t3 := Tryz.underlying3
 a3 := Tryz.isAgg3
 z3 := Tryz.sizeOf3
 v3 := Tryz.zeroValue3
 t4 := Tryz.underlying4
 a4 := Tryz.isAgg4
 z4 := Tryz.sizeOf4
 v4 := Tryz.zeroValue4
 t5 := Tryz.underlying5
 a5 := Tryz.isAgg5
 z5 := Tryz.sizeOf5
 v5 := Tryz.zeroValue5
 t9 := Tryz.underlying9
 a9 := Tryz.isAgg9
 z9 := Tryz.sizeOf9
 v9 := Tryz.zeroValue9
 t20 := Tryz.underlying20
 a20 := Tryz.isAgg20
 z20 := Tryz.sizeOf20
 v20 := Tryz.zeroValue20
 t37 := Tryz.underlying61
 a37 := Tryz.isAgg61
 z37 := Tryz.sizeOf61
 v37 := Tryz.zeroValue61
 t46 := Tryz.underlying108
 a46 := Tryz.isAgg108
 z46 := Tryz.sizeOf108
 v46 := Tryz.zeroValue108
 t51 := Tryz.underlying292
 a51 := Tryz.isAgg292
 z51 := Tryz.sizeOf292
 v51 := Tryz.zeroValue292
 t53 := Tryz.underlying104
 a53 := Tryz.isAgg104
 z53 := Tryz.sizeOf104
 v53 := Tryz.zeroValue104
 t70 := Tryz.underlying145
 a70 := Tryz.isAgg145
 z70 := Tryz.sizeOf145
 v70 := Tryz.zeroValue145
 t72 := Tryz.underlying147
 a72 := Tryz.isAgg147
 z72 := Tryz.sizeOf147
 v72 := Tryz.zeroValue147
 t75 := Tryz.underlying149
 a75 := Tryz.isAgg149
 z75 := Tryz.sizeOf149
 v75 := Tryz.zeroValue149
 t76 := Tryz.underlying152
 a76 := Tryz.isAgg152
 z76 := Tryz.sizeOf152
 v76 := Tryz.zeroValue152
 t109 := Tryz.underlying265
 a109 := Tryz.isAgg265
 z109 := Tryz.sizeOf265
 v109 := Tryz.zeroValue265
 t127 := Tryz.underlying218
 a127 := Tryz.isAgg218
 z127 := Tryz.sizeOf218
 v127 := Tryz.zeroValue218
 t146 := Tryz.underlying297
 a146 := Tryz.isAgg297
 z146 := Tryz.sizeOf297
 v146 := Tryz.zeroValue297
 t148 := Tryz.underlying299
 a148 := Tryz.isAgg299
 z148 := Tryz.sizeOf299
 v148 := Tryz.zeroValue299
 t164 := Tryz.underlying256
 a164 := Tryz.isAgg256
 z164 := Tryz.sizeOf256
 v164 := Tryz.zeroValue256 }
theorem Tryz.Builder_Extra_105 : Builder.Extra Tryz.prog Tryz.lays105_ren := {
 sizeBuilder := by kernel_rfl
 liesBuilder := by kernel_rfl
 t5 := Tryz.underlying5
 a5 := Tryz.isAgg5
 z5 := Tryz.sizeOf5
 v5 := Tryz.zeroValue5
 infoByte := by kernel_rfl
 cellsByte := by kernel_rfl
 sizeByte := by kernel_rfl
 neB5 := by decide }
open Go.RowKit Go.Lib in
theorem Tryz.strings_Repeat (s : ByteArray) (c : Nat) (w : World) (hc : c ≤ 9223372036854775807) (hlen : s.size * c ≤ 140737488355328) :
 Calls Tryz.prog 210 #[.string s, .int .i64 c] w fun e w' => e = .returned (.string ⟨(Lib.repeatL s.data.toList c).toArray⟩) ∧ Below w.heap.size w w' := Any.strings_Repeat Tryz.lays105 Tryz.Builder_Extra_105 s c w hc hlen
end Go.Proofs
/- A machine's jumps. -/
namespace Go.Proofs.YtabenhpjgjjgnaaGreatDoor
open Go.RowKit
set_option maxRecDepth 100000
def codeLen (K : MK) (S : St) : Int := (modOf K S).code.length
def goesM (K : MK) (far : Int) (S : St) : St × Nat := if S.next + far < 0 ∨ codeLen K S < S.next + far then (S, 12) else ({ S with next := S.next + far }, 0)
theorem code_cell {K : MK} {S : St} {W : World} (h : At K S W) (s : ROk K S) : ∃ b o, K.pA = some ⟨b, o, none⟩ ∧ W.cell? ⟨b, o + S.mod.toNat * 5, none⟩ = some (.string ⟨(modOf K S).code.toArray⟩) ∧ b < W.heap.size ∧ (modOf K S).code.length ≤ 140737488355328 := by
 have hm := s.mod0
 have hm1 := s.mod1
 obtain ⟨b, o, e, hb, t, hI, h0, _⟩ := (h.mods.reads (mask_reads _ _)).at_ (j := S.mod.toNat) (by omega)
 exact ⟨b, o, e, h0, hb, hI.code_le⟩
set_option maxHeartbeats 1000000 in
theorem goes_any (K : MK) (k : KOk K) (S : St) (s : ROk K S) (far : Int) (hn0 : 0 ≤ S.next) (hn1 : S.next ≤ 1000000) (hf0 : -1000000 ≤ far) (hf1 : far ≤ 1000000) (W : World) (h : At K S W) : Calls Tryz.prog 145 #[.pointer (some ⟨K.b, 0, none⟩), .int .i64 far] W (OpEnd K W (goesM K far S)) := by
 obtain ⟨b, o, hA, cc, hb, hcl⟩ := code_cell h s
 have c1 := h.c1
 rw [hA] at c1
 have c10 := h.c10
 have c15 := h.c15
 have f15 := h.fz 15
 have i0 := s.mod0
 have i1 := s.mod1
 have H := Lib.hid h
 have HK := Lib.hid k
 have HR0 := Lib.hid (show goesM K far S = if S.next + far < 0 ∨ ((modOf K S).code.length : Int) < S.next + far then (S, 12) else ({ S with next := S.next + far }, 0) from rfl)
 have hKb := h.lt
 clear hA h s k
 generalize (modOf K S).code = code at *
 by_cases t1 : S.next + far < 0
 ·have HR := Lib.hid (show goesM K far S = (S, 12) by rw [HR0.out, if_pos (.inl t1)])
  go_enter Tryz.func145, Tryz.ntmps145
  go_wp2_with fail
  refine wp_region_grow (by kernel_rfl) (by kernel_rfl) ?_
  repeat (first | go_big_quiet_step (fail))
  refine wpQuiet_nil ?_
  rintro _ ⟨gx, rfl⟩
  have H1 := Lib.hid (H.out.grow (growN_below W gx))
  have HO1 := Lib.hid (Only.of_below (bs := K.bs) (growN_below W gx))
  clear c1 c10 c15 f15 cc hb H
  generalize growN W gx = w1 at *
  go_wp2_with fail
  go_ret
  rw [HR.out]
  exact ⟨rfl, H1.out, HO1.out⟩
 ·have d1 : decide (S.next + far < 0) = false := decide_eq_false t1
  have hnn : 0 ≤ S.next + far := by omega
  have hK0 := H.out.lt
  by_cases t2 : (code.length : Int) < S.next + far
  ·have HR := Lib.hid (show goesM K far S = (S, 12) by rw [HR0.out, if_pos (.inr t2)])
   clear t1
   go_enter Tryz.func145, Tryz.ntmps145
   go_wp2_with fail
   refine wp_region_grow (by kernel_rfl) (by kernel_rfl) ?_
   repeat (first | go_big_quiet_step (fail))
   refine wpQuiet_nil ?_
   rintro _ ⟨gx, rfl⟩
   have H1 := Lib.hid (H.out.grow (growN_below W gx))
   have HO1 := Lib.hid (Only.of_below (bs := K.bs) (growN_below W gx))
   clear c1 c10 c15 f15 cc hb H
   generalize growN W gx = w1 at *
   go_wp2_with fail
   go_ret
   rw [HR.out]
   exact ⟨rfl, H1.out, HO1.out⟩
  ·have d2 : decide ((code.length : Int) < S.next + far) = false := decide_eq_false t2
   have hle : S.next + far ≤ code.length := by omega
   have HR := Lib.hid (show goesM K far S = ({ S with next := S.next + far }, 0) by rw [HR0.out, if_neg (by omega)])
   clear t1 t2
   go_enter Tryz.func145, Tryz.ntmps145
   go_wp2_with fail
   refine wp_region_grow (by kernel_rfl) (by kernel_rfl) ?_
   repeat (first | go_big_quiet_step (fail))
   refine wpQuiet_nil ?_
   rintro _ ⟨gx, rfl⟩
   have H1 := Lib.hid (H.out.grow (growN_below W gx))
   have HO1 := Lib.hid (Only.of_below (bs := K.bs) (growN_below W gx))
   clear c1 c10 c15 f15 cc hb H
   generalize growN W gx = w1 at *
   have c15 := H1.out.c15
   have f15 := H1.out.fz 15
   go_wp2_with fail
   go_ret
   rw [HR.out]
   exact ⟨rfl, H1.out.set_next HK.out (S.next + far), HO1.out.setCell (a := ⟨K.b, 15, none⟩) HK.out.hb _⟩
def jmpM (K : MK) (S : St) : St × Nat := goesM K (S.args.getD 0 0) S
theorem jmp_any (K : MK) (k : KOk K) (S : St) (s : ROk K S) (ha : 0 < S.args.length) (hn0 : 0 ≤ S.next) (hn1 : S.next ≤ 1000000) (hf0 : -1000000 ≤ S.args.getD 0 0) (hf1 : S.args.getD 0 0 ≤ 1000000) (W : World) (h : At K S W) : Calls Tryz.prog 80 #[.pointer (some ⟨K.b, 0, none⟩)] W (OpEnd K W (jmpM K S)) := by
 have H := Lib.hid h
 obtain ⟨b, o, c, m16, hb, hc⟩ := h.arg ha
 have hl : (0 : Int) < (S.args.length : Int) := by omega
 clear h
 have HL := Lib.hid (show jmpM K S = goesM K (S.args.getD 0 0) S from rfl)
 generalize S.args.getD 0 0 = a0 at *
 simp only [Nat.add_zero] at hc
 go_enter Tryz.func80, Tryz.ntmps80
 go_wp2_with fail
 refine (goes_any K k S s a0 hn0 hn1 hf0 hf1 W H.out).mono ?_
 rintro e w1 ⟨rfl, h1, ho1⟩
 go_wp2_with fail
 go_ret
 rw [HL.out]
 exact ⟨rfl, h1, ho1⟩
end Go.Proofs.YtabenhpjgjjgnaaGreatDoor
/- What a machine's jump on a word does, as a closure. -/
namespace Go.Proofs.YtabenhpjgjjgnaaGreatDoor
open Go.RowKit
set_option maxRecDepth 100000
attribute [local go_sem ↓] Go.wp_at_zero Go.wp_at_succ
theorem Only.cell {bs : List Nat} {W W' : World} (h : Only bs W W') {x : Nat} {v : Value} (hc : W.cell? ⟨x, 0, none⟩ = some v) (hx : x ∉ bs) : W'.cell? ⟨x, 0, none⟩ = some v :=
 (World.cell?_of_block (w := W) (h.block (lt_of_cell hc) hx)).trans hc
def jumpsR (K : MK) (z : Bool) (r : St × List Nat × Nat) : St × Nat :=
 if r.2.2 ≠ 0 then (r.1, r.2.2) else if ((r.2.1.getD 0 0 == 0) != z) then (r.1, 0) else goesM K (r.1.args.getD 0 0) r.1
def jumpsM (K : MK) (z : Bool) (S : St) : St × Nat := jumpsR K z (popsM K 1 S)
theorem eq0 (x : Nat) : (((x : Nat) : Int) == 0) = (x == 0) := by rw [Bool.eq_iff_iff]; simp
theorem popsM_keeps (K : MK) (n : Nat) (S : St) : (popsM K n S).1.args = S.args ∧ (popsM K n S).1.next = S.next := by unfold popsM; split <;> exact ⟨rfl, rfl⟩
set_option maxHeartbeats 1000000 in
theorem jumps1_any (K : MK) (k : KOk K) (S : St) (s : SOk K S) (z : Bool) (ha : 0 < S.args.length) (hn0 : 0 ≤ S.next) (hn1 : S.next ≤ 1000000) (hf0 : -1000000 ≤ S.args.getD 0 0) (hf1 : S.args.getD 0 0 ≤ 1000000) (W : World) (h : At K S W) (x y : Nat) (hx : x ∉ K.bs) (hy : y ∉ K.bs)
 (cx : W.cell? ⟨x, 0, none⟩ = some (.pointer (some ⟨K.b, 0, none⟩))) (cy : W.cell? ⟨y, 0, none⟩ = some (.bool z)) : Calls Tryz.prog 146 #[.pointer (some ⟨x, 0, none⟩), .pointer (some ⟨y, 0, none⟩)] W (OpEnd K W (jumpsM K z S)) := by
 have HS := Lib.hid (popsM_ok s 1)
 have HP := Lib.hid (show jumpsM K z S = jumpsR K z (popsM K 1 S) from rfl)
 have hlen := popsM_len K 1 S
 have HC := Lib.hid (pops_any K k S s 1 (by omega) W h)
 have HKE := Lib.hid (popsM_keeps K 1 S)
 have HCX := Lib.hid cx
 have HCY := Lib.hid cy
 clear h
 go_enter Tryz.func146, Tryz.ntmps146
 go_wp2_with fail
 refine (HC.out).mono ?_
 rintro e w1 ⟨A, c, rfl, hW, hA, ho⟩
 generalize popsM K 1 S = r at *
 obtain ⟨S1, l, t⟩ := r
 simp only at hlen hW hA HS HKE
 have dx := ho.cell HCX.out hx
 have dy := ho.cell HCY.out hy
 have HA := Lib.hid hA
 have HO := Lib.hid ho
 obtain ⟨b, o, rfl, hc⟩ := word_cells hW (by omega)
 clear hA ho hW HC cx cy HCX HCY
 rw [hlen]
 dsimp only
 by_cases ht : t = 0
 ·subst ht
  obtain ⟨hc0, hr0⟩ := hc 0 (by omega)
  simp only [Nat.add_zero] at hc0
  have hlt : b < w1.heap.size := lt_of_cell hc0
  have hlx : x < w1.heap.size := lt_of_cell dx
  have hly : y < w1.heap.size := lt_of_cell dy
  have hX0 : jumpsM K z S = if ((l.getD 0 0 == 0) != z) then (S1, 0) else goesM K (S1.args.getD 0 0) S1 := by rw [HP.out, jumpsR, if_neg (by simp)]
  have HX := Lib.hid hX0
  generalize l.getD 0 0 = x0 at *
  clear hc hlen hX0 HP
  by_cases hq : ((x0 == 0) != z) = true
  ·have d : (!((((x0 : Nat) : Int) == 0) == z)) = true := by rw [eq0]; revert hq; cases (x0 == 0) <;> cases z <;> simp
   go_wp2_with fail
   refine wp_region_grow (by kernel_rfl) (by kernel_rfl) ?_
   repeat (first | go_big_quiet_step (fail))
   refine wpQuiet_nil ?_
   rintro _ ⟨gx, rfl⟩
   have H1 := Lib.hid (HA.out.grow (growN_below w1 gx))
   have HO1 := Lib.hid (HO.out.trans (Only.of_below (bs := K.bs) (growN_below w1 gx)))
   go_wp2_with fail
   go_ret
   rw [HX.out, if_pos hq]
   exact ⟨rfl, H1.out, HO1.out⟩
  ·have d : (!((((x0 : Nat) : Int) == 0) == z)) = false := by rw [eq0]; revert hq; cases (x0 == 0) <;> cases z <;> simp
   go_wp2_with fail
   refine wp_region_grow (by kernel_rfl) (by kernel_rfl) ?_
   repeat (first | go_big_quiet_step (fail))
   refine wpQuiet_nil ?_
   rintro _ ⟨gx, rfl⟩
   have H1 := Lib.hid (HA.out.grow (growN_below w1 gx))
   have HO1 := Lib.hid (HO.out.trans (Only.of_below (bs := K.bs) (growN_below w1 gx)))
   have dx2 := ((growN_below w1 gx).cell (p := ⟨x, 0, none⟩) hlx).trans dx
   have ha1 : 0 < S1.args.length := by rw [HKE.out.1]; exact ha
   have HK1 := Lib.hid (show S1.args.getD 0 0 = S.args.getD 0 0 by rw [HKE.out.1])
   have HK2 := Lib.hid HKE.out.2
   have hz0 : -1000000 ≤ S1.args.getD 0 0 := by rw [HK1.out]; exact hf0
   have hz1 : S1.args.getD 0 0 ≤ 1000000 := by rw [HK1.out]; exact hf1
   have hn2 : 0 ≤ S1.next := by rw [HK2.out]; exact hn0
   have hn3 : S1.next ≤ 1000000 := by rw [HK2.out]; exact hn1
   have HG := Lib.hid (show jumpsM K z S = goesM K (S1.args.getD 0 0) S1 by rw [HX.out, if_neg hq])
   clear hc0 dx dy hlt hlx hly d HA HO HX hq
   generalize growN w1 gx = w2 at *
   go_wp2_with fail
   have H2 := Lib.hid (H1.out.grow (drew_below w2))
   have HO2 := Lib.hid (HO1.out.trans (Only.of_below (drew_below w2)))
   have dx3 := ((drew_below w2).cell (p := ⟨x, 0, none⟩) (lt_of_cell dx2)).trans dx2
   clear H1 HO1 dx2
   refine wp_region_tail 7 (by kernel_rfl) (by kernel_rfl) ?_
   generalize w2.drew = w3 at *
   obtain ⟨b2, o2, c2, m16, hb2, hcc⟩ := H2.out.arg ha1
   have hl2 : (0 : Int) < (S1.args.length : Int) := by omega
   simp only [Nat.add_zero] at hcc
   generalize S1.args.getD 0 0 = a0 at *
   simp only [List.take_succ_cons, List.take_zero, List.drop_succ_cons, List.drop_zero]
   repeat still_step
   refine wpStill_nil ?_
   go_wp2_with fail
   refine (goes_any K k S1 HS.out.toROk a0 hn2 hn3 hz0 hz1 w3 H2.out).mono ?_
   rintro e w4 ⟨rfl, h4, ho4⟩
   go_wp2_with fail
   go_ret
   rw [HG.out]
   exact ⟨rfl, h4, HO2.out.trans ho4⟩
 ·have d := bne_iff_ne.2 (show (t : Int) ≠ 0 by omega)
  go_wp2_with fail
  refine wp_region_grow (by kernel_rfl) (by kernel_rfl) ?_
  repeat (first | go_big_quiet_step (fail))
  refine wpQuiet_nil ?_
  rintro _ ⟨gx, rfl⟩
  have H1 := Lib.hid (HA.out.grow (growN_below w1 gx))
  have HO1 := Lib.hid (HO.out.trans (Only.of_below (bs := K.bs) (growN_below w1 gx)))
  go_wp2_with fail
  go_ret
  rw [HP.out, jumpsR, if_pos ht]
  exact ⟨rfl, H1.out, HO1.out⟩
end Go.Proofs.YtabenhpjgjjgnaaGreatDoor
