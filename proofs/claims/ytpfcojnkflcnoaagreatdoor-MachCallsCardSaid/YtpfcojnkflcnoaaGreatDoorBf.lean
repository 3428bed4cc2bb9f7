/- A machine does an op that reckons. Closures that a machine makes. A machine's simple instructions. A machine's jumps; a machine writes numbers. What a machine's jump on a word does, as a closure. A machine writes bytes. Condition: what lies in memory can lie there; what each theorem says. -/
import Derived.Test.YtpfcojnkflcnoaaGreatDoorBd
import Derived.Test.YtpfcojnkflcnoaaGreatDoorBe
import Derived.Test.YtpfcojnkflcnoaaGreatDoorShelf
import Derived.Deep.QuietTactic
import Derived.BigQuiet
import Derived.WalkLawsBesides
import Derived.Laws.Concat
/- A machine does an op that reckons. Condition: what lies in memory can lie there. -/
namespace Go.Proofs.YtpfcojnkflcnoaaGreatDoor
open Go.RowKit
set_option maxRecDepth 100000
attribute [local go_sem ↓] Go.wp_at_zero Go.wp_at_succ

theorem bits_range (o : BinOp) (x y : Int) : 0 ≤ bits o .u16 x y ∧ bits o .u16 x y ≤ 65535 := by
  unfold bits
  simp only [IntKind.wrap_u16]
  omega
theorem fitsI_range (n lo hi : Int) : 0 ≤ (fitsI n lo hi).1 ∧ (fitsI n lo hi).1 ≤ 65535 := by
  unfold fitsI
  split <;> simp only <;> omega
theorem overI_range (n : Int) (r : Int × Nat) (h : 0 ≤ r.1 ∧ r.1 ≤ 65535) : 0 ≤ (overI n r).1 ∧ (overI n r).1 ≤ 65535 := by
  unfold overI
  split
  · simp
  · exact h
theorem isI_range (b : Bool) : 0 ≤ (isI b).1 ∧ (isI b).1 ≤ 65535 := by cases b <;> simp [isI]
theorem rowS_range (a k : Nat) : 0 ≤ rowS a k ∧ rowS a k ≤ 65535 := by
  cases k with
  | zero => unfold rowS; omega
  | succ k => unfold rowS; exact bits_range _ _ _
theorem rowI_range (a b : Nat) : 0 ≤ (rowI a b).1 ∧ (rowI a b).1 ≤ 65535 := by
  unfold rowI
  split
  · simp
  · exact rowS_range _ _
theorem opI_range (n a b : Nat) : 0 ≤ (opI n a b).1 ∧ (opI n a b).1 ≤ 65535 := by
  unfold opI
  split
  all_goals first | exact fitsI_range _ _ _ | exact overI_range _ _ (fitsI_range _ _ _) | exact isI_range _ | exact rowI_range _ _ | (simp only; exact bits_range _ _ _) | simp
theorem does_all (n : Nat) (h1 : 1 ≤ n) (h2 : n ≤ 31) (a b : Nat) (ha : a < 65536) (hb : b < 65536) (W : World) : Calls Tryz.prog 119 #[.int .u8 n, .int .u16 a, .int .u16 b] W (WtEnd W (opI n a b)) := by
  have : n = 1 ∨ n = 2 ∨ n = 3 ∨ n = 4 ∨ n = 5 ∨ n = 6 ∨ n = 7 ∨ n = 8 ∨ n = 9 ∨ n = 10 ∨ n = 11 ∨ n = 12 ∨ n = 13 ∨ n = 14 ∨ n = 15 ∨ n = 16 ∨ n = 17 ∨ n = 18 ∨ n = 19 ∨ n = 20 ∨ n = 21 ∨ n = 22 ∨ n = 23 ∨ n = 24 ∨ n = 25 ∨ n = 26 ∨ n = 27 ∨ n = 28 ∨ n = 29 ∨ n = 30 ∨ n = 31 := by omega
  rcases this with rfl | rfl | rfl | rfl | rfl | rfl | rfl | rfl | rfl | rfl | rfl | rfl | rfl | rfl | rfl | rfl | rfl | rfl | rfl | rfl | rfl | rfl | rfl | rfl | rfl | rfl | rfl | rfl | rfl | rfl | rfl
  · exact doesOf1 a b ha hb W
  · exact doesOf2 a b ha hb W
  · exact doesOf3 a b ha hb W
  · exact doesOf4 a b ha hb W
  · exact doesOf5 a b ha hb W
  · exact doesOf6 a b ha hb W
  · exact doesOf7 a b ha hb W
  · exact doesOf8 a b ha hb W
  · exact doesOf9 a b ha hb W
  · exact doesOf10 a b ha hb W
  · exact doesOf11 a b ha hb W
  · exact doesOf12 a b ha hb W
  · exact doesOf13 a b ha hb W
  · exact doesOf14 a b ha hb W
  · exact doesOf15 a b ha hb W
  · exact doesOf16 a b ha hb W
  · exact doesOf17 a b ha hb W
  · exact doesOf18 a b ha hb W
  · exact doesOf19 a b ha hb W
  · exact doesOf20 a b ha hb W
  · exact doesOf21 a b ha hb W
  · exact doesOf22 a b ha hb W
  · exact doesOf23 a b ha hb W
  · exact doesOf24 a b ha hb W
  · exact doesOf25 a b ha hb W
  · exact doesOf26 a b ha hb W
  · exact doesOf27 a b ha hb W
  · exact doesOf28 a b ha hb W
  · exact doesOf29 a b ha hb W
  · exact doesOf30 a b ha hb W
  · exact doesOf31 a b ha hb W
theorem hereP_same {K : MK} {S S' : St} (h1 : S'.mod = S.mod) (h2 : S'.proc = S.proc) : hereP K S' = hereP K S := by unfold hereP modOf; rw [h1, h2]
theorem popsM_ok {K : MK} {S : St} (s : SOk K S) (n : Nat) : SOk K (popsM K n S).1 := by
  unfold popsM
  split
  · exact s
  · rename_i h
    have e : hereP K { S with sp := S.sp - n } = hereP K S := hereP_same rfl rfl
    refine ⟨⟨s.mod0, s.mod1, s.proc0, s.proc1⟩, s.fp1, ?_, ?_, ?_⟩
    · rw [e]; unfold floorN at h; simp only; omega
    · rw [e]; have := s.sp1; simp only; omega
    · rw [e]; exact s.top
/-- What an op does to a machine: it pops, reckons, pushes. -/
def opR (K : MK) (n j : Nat) (r : St × List Nat × Nat) : St × Nat :=
  if r.2.2 ≠ 0 then (r.1, r.2.2)
  else if (opI n (r.2.1.getD 0 0) (r.2.1.getD (j - 1) 0)).2 ≠ 0 then (r.1, (opI n (r.2.1.getD 0 0) (r.2.1.getD (j - 1) 0)).2)
  else pushM K (opI n (r.2.1.getD 0 0) (r.2.1.getD (j - 1) 0)).1.toNat r.1
def opM (K : MK) (n j : Nat) (S : St) : St × Nat := opR K n j (popsM K j S)
theorem word_cells {bs : List Nat} {W : World} {A : Option Addr} {l : List Nat} (h : Words (mask bs W) A l) (hl : 0 < l.length) : ∃ b o, A = some ⟨b, o, none⟩ ∧ ∀ j, j < l.length → W.cell? ⟨b, o + j, none⟩ = some (.int .u16 (l.getD j 0)) ∧ l.getD j 0 < 65536 := by
  have h := h.reads (mask_reads bs W)
  obtain ⟨b, o, rfl, _, _⟩ := h.at_ hl
  refine ⟨b, o, rfl, fun j hj => ?_⟩
  obtain ⟨b', o', e, _, hc⟩ := h.at_ hj
  cases e
  simpa using hc
set_option maxHeartbeats 1000000 in
theorem op1_any (K : MK) (k : KOk K) (S : St) (s : SOk K S) (n : Nat) (h1 : 1 ≤ n) (h2 : n ≤ 31) (W : World) (h : At K S W) : Calls Tryz.prog 52 #[.pointer (some ⟨K.b, 0, none⟩), .int .u8 n, .int .i64 1] W (OpEnd K W (opM K n 1 S)) := by
  have H := Lib.hid h
  have HS := Lib.hid (popsM_ok s 1)
  have HP := Lib.hid (show opM K n 1 S = opR K n 1 (popsM K 1 S) from rfl)
  have hlen := popsM_len K 1 S
  have HC := Lib.hid (pops_any K k S s 1 (by omega) W h)
  clear h
  go_enter Tryz.func52, Tryz.ntmps52
  go_wp2_with fail
  refine (HC.out).mono ?_
  rintro e w1 ⟨A, c, rfl, hW, hA, ho⟩
  generalize popsM K 1 S = r at *
  obtain ⟨S1, l, t⟩ := r
  simp only at hlen hW hA HS
  have HA := Lib.hid hA
  have HO := Lib.hid ho
  obtain ⟨b, o, rfl, hc⟩ := word_cells hW (by omega)
  clear hA ho hW HC
  rw [hlen]
  dsimp only
  by_cases ht : t = 0
  · subst ht
    have hX0 : opM K n 1 S = if (opI n (l.getD 0 0) (l.getD 0 0)).2 ≠ 0 then (S1, (opI n (l.getD 0 0) (l.getD 0 0)).2) else pushM K (opI n (l.getD 0 0) (l.getD 0 0)).1.toNat S1 := by
      rw [HP.out, opR, if_neg (by simp)]
    have HX := Lib.hid hX0
    clear hX0
    obtain ⟨hc0, hr0⟩ := hc 0 (by omega)
    clear HP
    generalize l.getD 0 0 = x0 at *
    clear hc hlen
    simp only [Nat.add_zero] at hc0
    have HD := Lib.hid (fun x : Gr => show Calls Tryz.prog 119 #[.int .u8 n, .int .u16 x0, .int .u16 x0] (growN w1 x) (fun e w' => e = .returned (.tuple #[.int .u16 (opI n x0 x0).1, .int .u8 ((opI n x0 x0).2 : Nat)]) ∧ Below (growN w1 x).heap.size (growN w1 x) w') from does_all n h1 h2 x0 x0 hr0 hr0 _)
    have hlt : b < w1.heap.size := lt_of_cell hc0
    have hop := opI_range n x0 x0
    generalize opI n x0 x0 = rr at *
    obtain ⟨y, t⟩ := rr
    simp only at hop
    obtain ⟨z, rfl⟩ : ∃ z : Nat, y = z := ⟨y.toNat, by omega⟩
    go_wp2_with fail
    refine wp_region_grow (by kernel_rfl) (by kernel_rfl) ?_
    repeat (first | go_big_quiet_step (first | (go_at_call 119; refine quiet_grow (HD.out _))))
    refine wpQuiet_nil ?_
    rintro _ ⟨gx, rfl⟩
    have H1 := Lib.hid (HA.out.grow (growN_below w1 gx))
    have HO1 := Lib.hid (HO.out.trans (Only.of_below (bs := K.bs) (growN_below w1 gx)))
    clear HA HO HD hc0 hlt H 
    generalize growN w1 gx = w2 at *
    by_cases ht : t = 0
    · subst ht
      go_wp2_with fail
      refine (push_any K k S1 HS.out z (by omega) w2 H1.out).mono ?_
      rintro e w3 ⟨rfl, h3, ho3⟩
      go_wp2_with fail
      go_ret
      rw [HX.out, if_neg (by simp)]
      exact ⟨rfl, h3, HO1.out.trans ho3⟩
    · have d := bne_iff_ne.2 (show (t : Int) ≠ 0 by omega)
      go_wp2_with fail
      go_ret
      rw [HX.out, if_pos ht]
      exact ⟨rfl, H1.out, HO1.out⟩
  · have d := bne_iff_ne.2 (show (t : Int) ≠ 0 by omega)
    go_wp2_with fail
    go_ret
    rw [HP.out, opR, if_pos ht]
    exact ⟨rfl, HA.out, HO.out⟩
set_option maxHeartbeats 1000000 in
theorem op2_any (K : MK) (k : KOk K) (S : St) (s : SOk K S) (n : Nat) (h1 : 1 ≤ n) (h2 : n ≤ 31) (W : World) (h : At K S W) : Calls Tryz.prog 52 #[.pointer (some ⟨K.b, 0, none⟩), .int .u8 n, .int .i64 2] W (OpEnd K W (opM K n 2 S)) := by
  have H := Lib.hid h
  have HS := Lib.hid (popsM_ok s 2)
  have HP := Lib.hid (show opM K n 2 S = opR K n 2 (popsM K 2 S) from rfl)
  have hlen := popsM_len K 2 S
  have HC := Lib.hid (pops_any K k S s 2 (by omega) W h)
  clear h
  go_enter Tryz.func52, Tryz.ntmps52
  go_wp2_with fail
  refine (HC.out).mono ?_
  rintro e w1 ⟨A, c, rfl, hW, hA, ho⟩
  generalize popsM K 2 S = r at *
  obtain ⟨S1, l, t⟩ := r
  simp only at hlen hW hA HS
  have HA := Lib.hid hA
  have HO := Lib.hid ho
  obtain ⟨b, o, rfl, hc⟩ := word_cells hW (by omega)
  clear hA ho hW HC
  rw [hlen]
  dsimp only
  by_cases ht : t = 0
  · subst ht
    have hX0 : opM K n 2 S = if (opI n (l.getD 0 0) (l.getD 1 0)).2 ≠ 0 then (S1, (opI n (l.getD 0 0) (l.getD 1 0)).2) else pushM K (opI n (l.getD 0 0) (l.getD 1 0)).1.toNat S1 := by
      rw [HP.out, opR, if_neg (by simp)]
    have HX := Lib.hid hX0
    clear hX0
    obtain ⟨hc0, hr0⟩ := hc 0 (by omega)
    obtain ⟨hc1, hr1⟩ := hc 1 (by omega)
    clear HP
    generalize l.getD 0 0 = x0 at *
    generalize l.getD 1 0 = x1 at *
    clear hc hlen
    simp only [Nat.add_zero] at hc0
    have HD := Lib.hid (fun x : Gr => show Calls Tryz.prog 119 #[.int .u8 n, .int .u16 x0, .int .u16 x1] (growN w1 x) (fun e w' => e = .returned (.tuple #[.int .u16 (opI n x0 x1).1, .int .u8 ((opI n x0 x1).2 : Nat)]) ∧ Below (growN w1 x).heap.size (growN w1 x) w') from does_all n h1 h2 x0 x1 hr0 hr1 _)
    have hlt : b < w1.heap.size := lt_of_cell hc0
    have hop := opI_range n x0 x1
    generalize opI n x0 x1 = rr at *
    obtain ⟨y, t⟩ := rr
    simp only at hop
    obtain ⟨z, rfl⟩ : ∃ z : Nat, y = z := ⟨y.toNat, by omega⟩
    go_wp2_with fail
    refine wp_region_grow (by kernel_rfl) (by kernel_rfl) ?_
    repeat (first | go_big_quiet_step (first | (go_at_call 119; refine quiet_grow (HD.out _))))
    refine wpQuiet_nil ?_
    rintro _ ⟨gx, rfl⟩
    have H1 := Lib.hid (HA.out.grow (growN_below w1 gx))
    have HO1 := Lib.hid (HO.out.trans (Only.of_below (bs := K.bs) (growN_below w1 gx)))
    clear HA HO HD hc0 hlt H hc1
    generalize growN w1 gx = w2 at *
    by_cases ht : t = 0
    · subst ht
      go_wp2_with fail
      refine (push_any K k S1 HS.out z (by omega) w2 H1.out).mono ?_
      rintro e w3 ⟨rfl, h3, ho3⟩
      go_wp2_with fail
      go_ret
      rw [HX.out, if_neg (by simp)]
      exact ⟨rfl, h3, HO1.out.trans ho3⟩
    · have d := bne_iff_ne.2 (show (t : Int) ≠ 0 by omega)
      go_wp2_with fail
      go_ret
      rw [HX.out, if_pos ht]
      exact ⟨rfl, H1.out, HO1.out⟩
  · have d := bne_iff_ne.2 (show (t : Int) ≠ 0 by omega)
    go_wp2_with fail
    go_ret
    rw [HP.out, opR, if_pos ht]
    exact ⟨rfl, HA.out, HO.out⟩
end Go.Proofs.YtpfcojnkflcnoaaGreatDoor
/- Closures that a machine makes. Condition: none. -/
namespace Go.Proofs.YtpfcojnkflcnoaaGreatDoor
open Go.RowKit
set_option maxRecDepth 100000
attribute [local go_sem ↓] Go.wp_at_zero Go.wp_at_succ

/-- A closure over two new variables. -/
def MadeFn (W : World) (f : FuncId) (u v : Value) (e : Ending) (w' : World) : Prop := ∃ x y : Nat, e = .returned (.func (.func f) #[] #[.pointer (some ⟨x, 0, none⟩), .pointer (some ⟨y, 0, none⟩)]) ∧ W.heap.size ≤ x ∧ W.heap.size ≤ y ∧
  w'.cell? ⟨x, 0, none⟩ = some u ∧ w'.cell? ⟨y, 0, none⟩ = some v ∧ Below W.heap.size W w'
theorem made_two (W : World) (f : FuncId) (u v : Value) (T1 T2 : TypeId) : MadeFn W f u v (.returned (.func (.func f) #[] #[.pointer (some ⟨W.heap.size, 0, none⟩), .pointer (some ⟨W.heap.size + 1, 0, none⟩)])) ((W.alloc (.cells #[u] T1)).alloc (.cells #[v] T2)) := by
  refine ⟨_, _, rfl, Nat.le_refl _, Nat.le_succ _, ?_, ?_, ((Below.refl _ _).alloc (Nat.le_refl _) _).alloc (by simp) _⟩
  · exact ((Bx.grow (Bx.new W #[u] T1) (alloc_below _ (.cells #[v] T2))).cell 0).trans rfl
  · simp
theorem texts_mk (b : Nat) (z : Bool) (W : World) : Calls Tryz.prog 85 #[.pointer (some ⟨b, 0, none⟩), .bool z] W (MadeFn W 151 (.pointer (some ⟨b, 0, none⟩)) (.bool z)) := by
  go_enter Tryz.func85, Tryz.ntmps85
  go_wp2_with fail
  go_ret
  exact made_two _ _ _ _ _ _
theorem jumps_mk (b : Nat) (z : Bool) (W : World) : Calls Tryz.prog 68 #[.pointer (some ⟨b, 0, none⟩), .bool z] W (MadeFn W 135 (.pointer (some ⟨b, 0, none⟩)) (.bool z)) := by
  go_enter Tryz.func68, Tryz.ntmps68
  go_wp2_with fail
  go_ret
  exact made_two _ _ _ _ _ _
theorem keeps_mk (b : Nat) (z : Bool) (W : World) : Calls Tryz.prog 69 #[.pointer (some ⟨b, 0, none⟩), .bool z] W (MadeFn W 136 (.pointer (some ⟨b, 0, none⟩)) (.bool z)) := by
  go_enter Tryz.func69, Tryz.ntmps69
  go_wp2_with fail
  go_ret
  exact made_two _ _ _ _ _ _
theorem global_mk (b : Nat) (g : Fn) (a c : Array Value) (W : World) : Calls Tryz.prog 54 #[.pointer (some ⟨b, 0, none⟩), .func g a c] W (MadeFn W 121 (.pointer (some ⟨b, 0, none⟩)) (.func g a c)) := by
  go_enter Tryz.func54, Tryz.ntmps54
  go_wp2_with fail
  go_ret
  exact made_two _ _ _ _ _ _
theorem local_mk (b : Nat) (g : Fn) (a c : Array Value) (W : World) : Calls Tryz.prog 58 #[.pointer (some ⟨b, 0, none⟩), .func g a c] W (MadeFn W 123 (.pointer (some ⟨b, 0, none⟩)) (.func g a c)) := by
  go_enter Tryz.func58, Tryz.ntmps58
  go_wp2_with fail
  go_ret
  exact made_two _ _ _ _ _ _
end Go.Proofs.YtpfcojnkflcnoaaGreatDoor
/- A machine's simple instructions. Condition: what lies in memory can lie there. -/
namespace Go.Proofs.YtpfcojnkflcnoaaGreatDoor
open Go.RowKit
set_option maxRecDepth 100000

theorem At.argsCell {K : MK} {S : St} {W : World} (h : At K S W) : ∃ A c, W.cell? ⟨K.b, 16, none⟩ = some (.slice A S.args.length c) ∧ Ints W A S.args := by
  obtain ⟨A, c, h1, h2⟩ := h.box
  exact ⟨A, c, (h1.cell 16).trans rfl, h2.reads (mask_reads _ _)⟩
/-- An argument's cell. -/
theorem At.arg {K : MK} {S : St} {W : World} (h : At K S W) {j : Nat} (hj : j < S.args.length) : ∃ b o c, W.cell? ⟨K.b, 16, none⟩ = some (.slice (some ⟨b, o, none⟩) S.args.length c) ∧ b < W.heap.size ∧ W.cell? ⟨b, o + j, none⟩ = some (.int .i64 (S.args.getD j 0)) := by
  obtain ⟨A, c, h1, h2⟩ := h.argsCell
  obtain ⟨b, o, rfl, hb, hc⟩ := h2.at_ hj
  exact ⟨b, o, c, h1, hb, by simpa using hc⟩
/-- A number as a word. -/
def w16 (x : Int) : Nat := (x % 65536).toNat
theorem w16_lt (x : Int) : w16 x < 65536 := by unfold w16; omega
theorem w16_cast (x : Int) : IntKind.u16.wrap x = ((w16 x : Nat) : Int) := by rw [IntKind.wrap_u16]; unfold w16; omega
def litM (K : MK) (S : St) : St × Nat := pushM K (w16 (S.args.getD 0 0)) S
theorem lit_any (K : MK) (k : KOk K) (S : St) (s : SOk K S) (ha : 0 < S.args.length) (W : World) (h : At K S W) : Calls Tryz.prog 53 #[.pointer (some ⟨K.b, 0, none⟩)] W (OpEnd K W (litM K S)) := by
  have H := Lib.hid h
  obtain ⟨b, o, c, m16, hb, hc⟩ := h.arg ha
  have hl : (0 : Int) < (S.args.length : Int) := by omega
  clear h
  have HL := Lib.hid (show litM K S = pushM K (w16 (S.args.getD 0 0)) S from rfl)
  have hx := w16_lt (S.args.getD 0 0)
  have HC := Lib.hid (w16_cast (S.args.getD 0 0))
  generalize S.args.getD 0 0 = a0 at *
  simp only [Nat.add_zero] at hc
  go_enter Tryz.func53, Tryz.ntmps53
  go_wp2_with fail
  rw [HC.out]
  refine (push_any K k S s (w16 a0) hx W H.out).mono ?_
  rintro e w1 ⟨rfl, h1, ho1⟩
  go_wp2_with fail
  go_ret
  rw [HL.out]
  exact ⟨rfl, h1, ho1⟩
end Go.Proofs.YtpfcojnkflcnoaaGreatDoor
/- A machine's jumps; a machine writes numbers. Condition: what lies in memory can lie there. -/
namespace Go.Proofs.YtpfcojnkflcnoaaGreatDoor
open Go.RowKit
set_option maxRecDepth 100000

def codeLen (K : MK) (S : St) : Int := (modOf K S).code.length
def goesM (K : MK) (far : Int) (S : St) : St × Nat := if S.next + far < 0 ∨ codeLen K S < S.next + far then (S, 12) else ({ S with next := S.next + far }, 0)
/-- The code that runs, its cell. -/
theorem code_cell {K : MK} {S : St} {W : World} (h : At K S W) (s : ROk K S) : ∃ b o, K.pA = some ⟨b, o, none⟩ ∧ W.cell? ⟨b, o + S.mod.toNat * 5, none⟩ = some (.string ⟨(modOf K S).code.toArray⟩) ∧ b < W.heap.size ∧ (modOf K S).code.length ≤ 140737488355328 := by
  have hm := s.mod0
  have hm1 := s.mod1
  obtain ⟨b, o, e, hb, t, hI, h0, _⟩ := (h.mods.reads (mask_reads _ _)).at_ (j := S.mod.toNat) (by omega)
  exact ⟨b, o, e, h0, hb, hI.code_le⟩
set_option maxHeartbeats 1000000 in
theorem goes_any (K : MK) (k : KOk K) (S : St) (s : ROk K S) (far : Int) (hn0 : 0 ≤ S.next) (hn1 : S.next ≤ 1000000) (hf0 : -1000000 ≤ far) (hf1 : far ≤ 1000000) (W : World) (h : At K S W) : Calls Tryz.prog 134 #[.pointer (some ⟨K.b, 0, none⟩), .int .i64 far] W (OpEnd K W (goesM K far S)) := by
  obtain ⟨b, o, hA, cc, hb, hcl⟩ := code_cell h s
  have c1 := h.c1
  rw [hA] at c1
  have c10 := h.c10
  have c15 := h.c15
  have f15 := h.fz 15
  have i0 := s.mod0
  have i1 := s.mod1
  have H := Lib.hid h
  have HK := Lib.hid k
  have HR0 := Lib.hid (show goesM K far S = if S.next + far < 0 ∨ ((modOf K S).code.length : Int) < S.next + far then (S, 12) else ({ S with next := S.next + far }, 0) from rfl)
  have hKb := h.lt
  clear hA h s k
  generalize (modOf K S).code = code at *
  by_cases t1 : S.next + far < 0
  · have HR := Lib.hid (show goesM K far S = (S, 12) by rw [HR0.out, if_pos (.inl t1)])
    go_enter Tryz.func134, Tryz.ntmps134
    go_wp2_with fail
    refine wp_region_grow (by kernel_rfl) (by kernel_rfl) ?_
    repeat (first | go_big_quiet_step (fail))
    refine wpQuiet_nil ?_
    rintro _ ⟨gx, rfl⟩
    have H1 := Lib.hid (H.out.grow (growN_below W gx))
    have HO1 := Lib.hid (Only.of_below (bs := K.bs) (growN_below W gx))
    clear c1 c10 c15 f15 cc hb H
    generalize growN W gx = w1 at *
    go_wp2_with fail
    go_ret
    rw [HR.out]
    exact ⟨rfl, H1.out, HO1.out⟩
  · have d1 : decide (S.next + far < 0) = false := decide_eq_false t1
    have hnn : 0 ≤ S.next + far := by omega
    have hK0 := H.out.lt
    by_cases t2 : (code.length : Int) < S.next + far
    · have HR := Lib.hid (show goesM K far S = (S, 12) by rw [HR0.out, if_pos (.inr t2)])
      clear t1
      go_enter Tryz.func134, Tryz.ntmps134
      go_wp2_with fail
      refine wp_region_grow (by kernel_rfl) (by kernel_rfl) ?_
      repeat (first | go_big_quiet_step (fail))
      refine wpQuiet_nil ?_
      rintro _ ⟨gx, rfl⟩
      have H1 := Lib.hid (H.out.grow (growN_below W gx))
      have HO1 := Lib.hid (Only.of_below (bs := K.bs) (growN_below W gx))
      clear c1 c10 c15 f15 cc hb H
      generalize growN W gx = w1 at *
      go_wp2_with fail
      go_ret
      rw [HR.out]
      exact ⟨rfl, H1.out, HO1.out⟩
    · have d2 : decide ((code.length : Int) < S.next + far) = false := decide_eq_false t2
      have hle : S.next + far ≤ code.length := by omega
      have HR := Lib.hid (show goesM K far S = ({ S with next := S.next + far }, 0) by rw [HR0.out, if_neg (by omega)])
      clear t1 t2
      go_enter Tryz.func134, Tryz.ntmps134
      go_wp2_with fail
      refine wp_region_grow (by kernel_rfl) (by kernel_rfl) ?_
      repeat (first | go_big_quiet_step (fail))
      refine wpQuiet_nil ?_
      rintro _ ⟨gx, rfl⟩
      have H1 := Lib.hid (H.out.grow (growN_below W gx))
      have HO1 := Lib.hid (Only.of_below (bs := K.bs) (growN_below W gx))
      clear c1 c10 c15 f15 cc hb H
      generalize growN W gx = w1 at *
      have c15 := H1.out.c15
      have f15 := H1.out.fz 15
      go_wp2_with fail
      go_ret
      rw [HR.out]
      exact ⟨rfl, H1.out.set_next HK.out (S.next + far), HO1.out.setCell (a := ⟨K.b, 15, none⟩) HK.out.hb _⟩
def jmpM (K : MK) (S : St) : St × Nat := goesM K (S.args.getD 0 0) S
theorem jmp_any (K : MK) (k : KOk K) (S : St) (s : ROk K S) (ha : 0 < S.args.length) (hn0 : 0 ≤ S.next) (hn1 : S.next ≤ 1000000) (hf0 : -1000000 ≤ S.args.getD 0 0) (hf1 : S.args.getD 0 0 ≤ 1000000) (W : World) (h : At K S W) : Calls Tryz.prog 67 #[.pointer (some ⟨K.b, 0, none⟩)] W (OpEnd K W (jmpM K S)) := by
  have H := Lib.hid h
  obtain ⟨b, o, c, m16, hb, hc⟩ := h.arg ha
  have hl : (0 : Int) < (S.args.length : Int) := by omega
  clear h
  have HL := Lib.hid (show jmpM K S = goesM K (S.args.getD 0 0) S from rfl)
  generalize S.args.getD 0 0 = a0 at *
  simp only [Nat.add_zero] at hc
  go_enter Tryz.func67, Tryz.ntmps67
  go_wp2_with fail
  refine (goes_any K k S s a0 hn0 hn1 hf0 hf1 W H.out).mono ?_
  rintro e w1 ⟨rfl, h1, ho1⟩
  go_wp2_with fail
  go_ret
  rw [HL.out]
  exact ⟨rfl, h1, ho1⟩
end Go.Proofs.YtpfcojnkflcnoaaGreatDoor
/- What a machine's jump on a word does, as a closure. Condition: what lies in memory can lie there. -/
namespace Go.Proofs.YtpfcojnkflcnoaaGreatDoor
open Go.RowKit
set_option maxRecDepth 100000
attribute [local go_sem ↓] Go.wp_at_zero Go.wp_at_succ

theorem Only.cell {bs : List Nat} {W W' : World} (h : Only bs W W') {x : Nat} {v : Value} (hc : W.cell? ⟨x, 0, none⟩ = some v) (hx : x ∉ bs) : W'.cell? ⟨x, 0, none⟩ = some v :=
  (World.cell?_of_block (w := W) (h.block (lt_of_cell hc) hx)).trans hc
/-- What a jump on a word does. -/
def jumpsR (K : MK) (z : Bool) (r : St × List Nat × Nat) : St × Nat :=
  if r.2.2 ≠ 0 then (r.1, r.2.2) else if ((r.2.1.getD 0 0 == 0) != z) then (r.1, 0) else goesM K (r.1.args.getD 0 0) r.1
def jumpsM (K : MK) (z : Bool) (S : St) : St × Nat := jumpsR K z (popsM K 1 S)
theorem eq0 (x : Nat) : (((x : Nat) : Int) == 0) = (x == 0) := by rw [Bool.eq_iff_iff]; simp
theorem popsM_keeps (K : MK) (n : Nat) (S : St) : (popsM K n S).1.args = S.args ∧ (popsM K n S).1.next = S.next := by unfold popsM; split <;> exact ⟨rfl, rfl⟩
set_option maxHeartbeats 1000000 in
theorem jumps1_any (K : MK) (k : KOk K) (S : St) (s : SOk K S) (z : Bool) (ha : 0 < S.args.length) (hn0 : 0 ≤ S.next) (hn1 : S.next ≤ 1000000) (hf0 : -1000000 ≤ S.args.getD 0 0) (hf1 : S.args.getD 0 0 ≤ 1000000) (W : World) (h : At K S W) (x y : Nat) (hx : x ∉ K.bs) (hy : y ∉ K.bs)
    (cx : W.cell? ⟨x, 0, none⟩ = some (.pointer (some ⟨K.b, 0, none⟩))) (cy : W.cell? ⟨y, 0, none⟩ = some (.bool z)) : Calls Tryz.prog 135 #[.pointer (some ⟨x, 0, none⟩), .pointer (some ⟨y, 0, none⟩)] W (OpEnd K W (jumpsM K z S)) := by
  have HS := Lib.hid (popsM_ok s 1)
  have HP := Lib.hid (show jumpsM K z S = jumpsR K z (popsM K 1 S) from rfl)
  have hlen := popsM_len K 1 S
  have HC := Lib.hid (pops_any K k S s 1 (by omega) W h)
  have HKE := Lib.hid (popsM_keeps K 1 S)
  have HCX := Lib.hid cx
  have HCY := Lib.hid cy
  clear h
  go_enter Tryz.func135, Tryz.ntmps135
  go_wp2_with fail
  refine (HC.out).mono ?_
  rintro e w1 ⟨A, c, rfl, hW, hA, ho⟩
  generalize popsM K 1 S = r at *
  obtain ⟨S1, l, t⟩ := r
  simp only at hlen hW hA HS HKE
  have dx := ho.cell HCX.out hx
  have dy := ho.cell HCY.out hy
  have HA := Lib.hid hA
  have HO := Lib.hid ho
  obtain ⟨b, o, rfl, hc⟩ := word_cells hW (by omega)
  clear hA ho hW HC cx cy HCX HCY
  rw [hlen]
  dsimp only
  by_cases ht : t = 0
  · subst ht
    obtain ⟨hc0, hr0⟩ := hc 0 (by omega)
    simp only [Nat.add_zero] at hc0
    have hlt : b < w1.heap.size := lt_of_cell hc0
    have hlx : x < w1.heap.size := lt_of_cell dx
    have hly : y < w1.heap.size := lt_of_cell dy
    have hX0 : jumpsM K z S = if ((l.getD 0 0 == 0) != z) then (S1, 0) else goesM K (S1.args.getD 0 0) S1 := by rw [HP.out, jumpsR, if_neg (by simp)]
    have HX := Lib.hid hX0
    generalize l.getD 0 0 = x0 at *
    clear hc hlen hX0 HP
    by_cases hq : ((x0 == 0) != z) = true
    · have d : (!((((x0 : Nat) : Int) == 0) == z)) = true := by rw [eq0]; revert hq; cases (x0 == 0) <;> cases z <;> simp
      go_wp2_with fail
      refine wp_region_grow (by kernel_rfl) (by kernel_rfl) ?_
      repeat (first | go_big_quiet_step (fail))
      refine wpQuiet_nil ?_
      rintro _ ⟨gx, rfl⟩
      have H1 := Lib.hid (HA.out.grow (growN_below w1 gx))
      have HO1 := Lib.hid (HO.out.trans (Only.of_below (bs := K.bs) (growN_below w1 gx)))
      go_wp2_with fail
      go_ret
      rw [HX.out, if_pos hq]
      exact ⟨rfl, H1.out, HO1.out⟩
    · have d : (!((((x0 : Nat) : Int) == 0) == z)) = false := by rw [eq0]; revert hq; cases (x0 == 0) <;> cases z <;> simp
      go_wp2_with fail
      refine wp_region_grow (by kernel_rfl) (by kernel_rfl) ?_
      repeat (first | go_big_quiet_step (fail))
      refine wpQuiet_nil ?_
      rintro _ ⟨gx, rfl⟩
      have H1 := Lib.hid (HA.out.grow (growN_below w1 gx))
      have HO1 := Lib.hid (HO.out.trans (Only.of_below (bs := K.bs) (growN_below w1 gx)))
      have dx2 := ((growN_below w1 gx).cell (p := ⟨x, 0, none⟩) hlx).trans dx
      have ha1 : 0 < S1.args.length := by rw [HKE.out.1]; exact ha
      have HK1 := Lib.hid (show S1.args.getD 0 0 = S.args.getD 0 0 by rw [HKE.out.1])
      have HK2 := Lib.hid HKE.out.2
      have hz0 : -1000000 ≤ S1.args.getD 0 0 := by rw [HK1.out]; exact hf0
      have hz1 : S1.args.getD 0 0 ≤ 1000000 := by rw [HK1.out]; exact hf1
      have hn2 : 0 ≤ S1.next := by rw [HK2.out]; exact hn0
      have hn3 : S1.next ≤ 1000000 := by rw [HK2.out]; exact hn1
      have HG := Lib.hid (show jumpsM K z S = goesM K (S1.args.getD 0 0) S1 by rw [HX.out, if_neg hq])
      clear hc0 dx dy hlt hlx hly d HA HO HX hq
      generalize growN w1 gx = w2 at *
      go_wp2_with fail
      have H2 := Lib.hid (H1.out.grow (drew_below w2))
      have HO2 := Lib.hid (HO1.out.trans (Only.of_below (drew_below w2)))
      have dx3 := ((drew_below w2).cell (p := ⟨x, 0, none⟩) (lt_of_cell dx2)).trans dx2
      clear H1 HO1 dx2
      refine wp_region_tail 7 (by kernel_rfl) (by kernel_rfl) ?_
      generalize w2.drew = w3 at *
      obtain ⟨b2, o2, c2, m16, hb2, hcc⟩ := H2.out.arg ha1
      have hl2 : (0 : Int) < (S1.args.length : Int) := by omega
      simp only [Nat.add_zero] at hcc
      generalize S1.args.getD 0 0 = a0 at *
      simp only [List.take_succ_cons, List.take_zero, List.drop_succ_cons, List.drop_zero]
      repeat still_step
      refine wpStill_nil ?_
      go_wp2_with fail
      refine (goes_any K k S1 HS.out.toROk a0 hn2 hn3 hz0 hz1 w3 H2.out).mono ?_
      rintro e w4 ⟨rfl, h4, ho4⟩
      go_wp2_with fail
      go_ret
      rw [HG.out]
      exact ⟨rfl, h4, HO2.out.trans ho4⟩
  · have d := bne_iff_ne.2 (show (t : Int) ≠ 0 by omega)
    go_wp2_with fail
    refine wp_region_grow (by kernel_rfl) (by kernel_rfl) ?_
    repeat (first | go_big_quiet_step (fail))
    refine wpQuiet_nil ?_
    rintro _ ⟨gx, rfl⟩
    have H1 := Lib.hid (HA.out.grow (growN_below w1 gx))
    have HO1 := Lib.hid (HO.out.trans (Only.of_below (bs := K.bs) (growN_below w1 gx)))
    go_wp2_with fail
    go_ret
    rw [HP.out, jumpsR, if_pos ht]
    exact ⟨rfl, H1.out, HO1.out⟩
end Go.Proofs.YtpfcojnkflcnoaaGreatDoor
/- A machine writes bytes. Condition: what lies in memory can lie there. -/
namespace Go.Proofs.YtpfcojnkflcnoaaGreatDoor
open Go.RowKit
set_option maxRecDepth 100000

@[go_sem] theorem run_store_complex {P : Program} (w : World) (a : Addr) (m : Mode) (k : FloatKind) (re im : Nat) : (store a (.complex k re im) m).run P w = stored P w a (.complex k re im) m := run_store P w a _ m rfl
def writeM (K : MK) (s : List UInt8) (S : St) : St × Bool := if K.most - S.out.length < s.length then (S, false) else ({ S with out := S.out ++ s }, true)
def WriteEnd (K : MK) (W : World) (r : St × Bool) (e : Ending) (W' : World) : Prop := e = .returned (.bool r.2) ∧ At K r.1 W' ∧ Only K.bs W W'
theorem At.setTerm {K : MK} {S : St} {W W' : World} {inp out : List UInt8} {re im : Nat} (h : At K S W) (k : KOk K) (hr : re ≤ fTop ∧ im ≤ fTop) (ht : Bx K.bt (tcells K { S with inp := inp, out := out } re im) 108 W') (ho : Only K.bs W W') (hf : ∀ j, j < W.heap.size → j ≠ K.bt → W'.heap[j]? = W.heap[j]?) : At K { S with inp := inp, out := out } W' := by
  obtain ⟨A, c, h1, h2⟩ := h.box
  exact h.only ho ⟨A, c, (hf _ h1.lt k.bt).trans h1, h2.later ho (by rw [mask_size]; exact Nat.le_refl _)⟩ ⟨re, im, hr, ht⟩ (h.mem.later (hf _ h.mem.lt k.tm.symm))
set_option maxHeartbeats 1000000 in
theorem write_any (K : MK) (k : KOk K) (S : St) (s : List UInt8) (hs : s.length ≤ 1000000) (hm0 : 0 ≤ K.most) (hm1 : K.most ≤ 1000000) (ho : S.out.length ≤ 1000000) (W : World) (h : At K S W) : Calls Tryz.prog 155 #[.pointer (some ⟨K.bt, 0, none⟩), .string ⟨s.toArray⟩] W (WriteEnd K W (writeM K s S)) := by
  obtain ⟨re, im, ⟨hr1, hr2⟩, hT⟩ := h.term
  obtain ⟨re2, im2, hr3, hadd⟩ := csum_pos re im 0 (floatOfInt .f64 (s.length : Int)) hr1 hr2 (Nat.zero_le _) (ofInt_pos _)
  clear hr1 hr2
  have t1 : W.cell? ⟨K.bt, 1, none⟩ = some (.string ⟨S.out.toArray⟩) := (hT.cell 1).trans rfl
  have t2 : W.cell? ⟨K.bt, 2, none⟩ = some (.int .i64 K.most) := (hT.cell 2).trans rfl
  have t3 : W.cell? ⟨K.bt, 3, none⟩ = some (.complex .f64 re im) := (hT.cell 3).trans rfl
  have t4 : W.cell? ⟨K.bt, 4, none⟩ = some (.bool true) := (hT.cell 4).trans rfl
  have tf := hT.frozen
  have tl := hT.lt
  have H := Lib.hid h
  have HT := Lib.hid hT
  have HK := Lib.hid k
  have hsI : (s.length : Int) ≤ 1000000 := by omega
  have hoI : (S.out.length : Int) ≤ 1000000 := by omega
  clear h hT k
  by_cases hb : K.most - S.out.length < s.length
  · have HR := Lib.hid (show writeM K s S = (S, false) by unfold writeM; rw [if_pos hb])
    go_enter Tryz.func155, Tryz.ntmps155
    go_wp2_with fail
    refine wp_region_grow (by kernel_rfl) (by kernel_rfl) ?_
    repeat (first | go_big_quiet_step (fail))
    refine wpQuiet_nil ?_
    rintro _ ⟨gx, rfl⟩
    go_wp2_with fail
    go_ret
    rw [HR.out]
    exact ⟨rfl, H.out.grow (growN_below W gx), Only.of_below (growN_below W gx)⟩
  · have hnb : (s.length : Int) ≤ K.most - S.out.length := by omega
    have d := decide_eq_false hb
    have HR := Lib.hid (show writeM K s S = ({ S with out := S.out ++ s }, true) by unfold writeM; rw [if_neg hb])
    clear hb
    go_enter Tryz.func155, Tryz.ntmps155
    go_wp2_with fail
    refine wp_region_grow (by kernel_rfl) (by kernel_rfl) ?_
    repeat (first | go_big_quiet_step (fail))
    refine wpQuiet_nil ?_
    rintro _ ⟨gx, rfl⟩
    have H1 := Lib.hid (H.out.grow (growN_below W gx))
    have HT1 := Lib.hid (HT.out.grow (growN_below W gx))
    have HO1 := Lib.hid (Only.of_below (bs := K.bs) (growN_below W gx))
    clear t1 t2 t3 t4 tf tl H HT
    generalize growN W gx = w1 at *
    have t1 : w1.cell? ⟨K.bt, 1, none⟩ = some (.string ⟨S.out.toArray⟩) := (HT1.out.cell 1).trans rfl
    have t3 : w1.cell? ⟨K.bt, 3, none⟩ = some (.complex .f64 re im) := (HT1.out.cell 3).trans rfl
    have tf := HT1.out.frozen
    have tl := HT1.out.lt
    have hadd1 := fun w t => hadd Tryz.prog w t
    clear hadd
    have HX := Lib.hid (((HT1.out.set 1 (.string ⟨(S.out ++ s).toArray⟩)).to (ds := #[.string ⟨S.inp.toArray⟩, .string ⟨(S.out ++ s).toArray⟩, .int .i64 K.most, .complex .f64 re im, .bool true]) rfl).set 3 (.complex .f64 re2 im2))
    have HF := Lib.hid (fun j (_ : j < w1.heap.size) (hne : j ≠ K.bt) => (Below.heap_setCell (w1.setCell ⟨K.bt, 1, none⟩ (.string ⟨(S.out ++ s).toArray⟩)) ⟨K.bt, 3, none⟩ (.complex .f64 re2 im2) j hne).trans (Below.heap_setCell w1 ⟨K.bt, 1, none⟩ (.string ⟨(S.out ++ s).toArray⟩) j hne))
    have HO := Lib.hid (((Only.refl K.bs w1).setCell (a := ⟨K.bt, 1, none⟩) HK.out.ht (.string ⟨(S.out ++ s).toArray⟩)).setCell (a := ⟨K.bt, 3, none⟩) HK.out.ht (.complex .f64 re2 im2))
    go_wp2_with fail
    go_ret
    rw [HR.out]
    exact ⟨rfl, H1.out.setTerm (inp := S.inp) (out := S.out ++ s) HK.out hr3 HX.out HO.out HF.out, HO1.out.trans HO.out⟩
end Go.Proofs.YtpfcojnkflcnoaaGreatDoor
