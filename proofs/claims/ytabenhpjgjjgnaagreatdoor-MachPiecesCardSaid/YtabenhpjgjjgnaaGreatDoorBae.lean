/- A machine's memory of words. Rows of a machine's memory. Sums of numbers that are not below 0, as floating-point words. Condition: what lies in memory can lie there; what each theorem says. -/
import Derived.Test.YtabenhpjgjjgnaaGreatDoorBaa
import Derived.Deep.QuietTactic
import Derived.BigQuiet
import Derived.Deep.LoopGhost
import Derived.IntWalk
import Derived.Lib.SliceRun
import Derived.BigFrame
import Derived.Laws.ComplexArith
/- A machine's memory of words. -/
namespace Go.Proofs.YtabenhpjgjjgnaaGreatDoor
open Go.RowKit
set_option maxRecDepth 100000
structure MemAt (b n : Nat) (ws : Nat → Nat) (W : World) : Prop where
 blk : ∃ cur, W.heap[b]? = some (.cells cur 121 (0, 0)) ∧ cur.size = 65537
 word : ∀ i, i < 65535 → W.cell? ⟨b, i, none⟩ = some (.int .u16 (ws i))
 small : ∀ i, ws i < 65536
 len : W.cell? ⟨b, 65535, none⟩ = some (.int .i64 n)
 made : W.cell? ⟨b, 65536, none⟩ = some (.bool true)
 n_le : n ≤ 65535
theorem MemAt.lt {b n : Nat} {ws : Nat → Nat} {W : World} (h : MemAt b n ws W) : b < W.heap.size := lt_of_cell h.made
theorem MemAt.later {b n : Nat} {ws : Nat → Nat} {W W' : World} (h : MemAt b n ws W) (hb : W'.heap[b]? = W.heap[b]?) : MemAt b n ws W' := by
 have hc : ∀ o, W'.cell? ⟨b, o, none⟩ = W.cell? ⟨b, o, none⟩ := fun o => by unfold World.cell?; simp only; rw [hb]
 obtain ⟨cur, h1, h2⟩ := h.blk
 exact ⟨⟨cur, hb.trans h1, h2⟩, fun i hi => (hc i).trans (h.word i hi), h.small, (hc _).trans h.len, (hc _).trans h.made, h.n_le⟩
theorem MemAt.grow {b n : Nat} {ws : Nat → Nat} {W W' : World} (h : MemAt b n ws W) (hb : Below W.heap.size W W') : MemAt b n ws W' := h.later (hb.block b h.lt)
theorem MemAt.frozen {b n : Nat} {ws : Nat → Nat} {W : World} (h : MemAt b n ws W) (i : Nat) : W.frozen? ⟨b, i, none⟩ = false := by
 obtain ⟨cur, h1, _⟩ := h.blk
 unfold World.frozen?; rw [h1]; simp
def upd (ws : Nat → Nat) (i x : Nat) : Nat → Nat := fun j => if j = i then x else ws j
theorem MemAt.set {b n : Nat} {ws : Nat → Nat} {W : World} (h : MemAt b n ws W) {i x : Nat} (hi : i < 65535) (hx : x < 65536) : MemAt b n (upd ws i x) (W.setCell ⟨b, i, none⟩ (.int .u16 x)) := by
 obtain ⟨cur, h1, h2⟩ := h.blk
 have hs : Bx b (cur.setIfInBounds i (.int .u16 x)) 121 (W.setCell ⟨b, i, none⟩ (.int .u16 x)) := Bx.set h1 i _
 have hold : ∀ o, o ≠ i → (W.setCell ⟨b, i, none⟩ (.int .u16 x)).cell? ⟨b, o, none⟩ = W.cell? ⟨b, o, none⟩ := fun o ho => by
  rw [hs.cell o, Bx.cell h1 o, Array.getElem?_setIfInBounds_ne (by omega)]
 refine ⟨⟨_, hs, by simp [h2]⟩, fun j hj => ?_, fun j => ?_, (hold _ (by omega)).trans h.len, (hold _ (by omega)).trans h.made, h.n_le⟩
 ·unfold upd
  split
  ·rename_i e
   subst e
   rw [hs.cell j, Array.getElem?_setIfInBounds_self_of_lt (by omega)]
  ·rename_i e
   rw [hold j e]; exact h.word j hj
 ·unfold upd; split
  ·exact hx
  ·exact h.small j
def hasB (n : Nat) (k at_ : Int) : Bool := decide (1 ≤ at_) && decide (at_ ≤ n + 1) && decide (k ≤ n + 1 - at_)
theorem has_any (b n : Nat) (ws : Nat → Nat) (at_ k : Int) (x y : Nat) (W : World) (hM : MemAt b n ws W) (hx : W.cell? ⟨x, 0, none⟩ = some (.pointer (some ⟨b, 0, none⟩))) (hy : W.cell? ⟨y, 0, none⟩ = some (.int .i64 k)) :
 Calls Tryz.prog 122 #[.int .i64 at_, .pointer (some ⟨x, 0, none⟩), .pointer (some ⟨y, 0, none⟩)] W (fun e w' => e = .returned (.bool (hasB n k at_)) ∧ ∃ q, w' = W.drewN q) := by
 have hl := hM.len
 have hn := hM.n_le
 have hnI : (n : Int) ≤ 65535 := by omega
 have hn0 : (0 : Int) ≤ n := by omega
 clear hM
 unfold hasB
 by_cases h1 : 1 ≤ at_
 ·by_cases h2 : at_ ≤ n + 1
  ·by_cases h3 : k ≤ n + 1 - at_
   ·rw [decide_eq_true h1, decide_eq_true h2, decide_eq_true h3]
    go_enter Tryz.func122, Tryz.ntmps122
    go_wp2
    go_quiet (fail)
    go_wp2
    go_ret
    exact ⟨rfl, _, rfl⟩
   ·have d3 := decide_eq_false h3
    rw [decide_eq_true h1, decide_eq_true h2, d3]
    clear h3
    go_enter Tryz.func122, Tryz.ntmps122
    go_wp2
    go_quiet (fail)
    go_wp2
    go_ret
    exact ⟨rfl, _, rfl⟩
  ·have d2 := decide_eq_false h2
   rw [decide_eq_true h1, d2]
   clear h2
   go_enter Tryz.func122, Tryz.ntmps122
   go_wp2
   go_quiet (fail)
   go_wp2
   go_ret
   exact ⟨rfl, _, rfl⟩
 ·have d1 := decide_eq_false h1
  rw [d1]
  clear h1
  go_enter Tryz.func122, Tryz.ntmps122
  go_wp2
  go_quiet (fail)
  go_wp2
  go_ret
  exact ⟨rfl, _, rfl⟩
def thereM (n : Nat) (k : Int) (l : List Int) : Bool := decide (0 ≤ k) && l.all (hasB n k)
theorem thereM_take (n : Nat) (k : Int) (l : List Int) (j : Nat) (hj : j < l.length) (h : hasB n k (l.getD j 0) = false) : l.all (hasB n k) = false := all_false_at (hasB n k) l j 0 hj h
set_option maxHeartbeats 1000000 in
theorem there_any (b n : Nat) (ws : Nat → Nat) (k : Int) (A : Option Addr) (c : Nat) (l : List Int) (hl : l.length ≤ 140737488355328) (W : World) (hM : MemAt b n ws W) (hL : Ints W A l) :
 Calls Tryz.prog 55 #[.pointer (some ⟨b, 0, none⟩), .int .i64 k, .slice A l.length c] W (BoolEnd W (thereM n k l)) := by
 have HM0 := Lib.hid hM
 have HL0 := Lib.hid hL
 have hbl := hM.lt
 have hm := hM.made
 clear hM hL
 by_cases hk : 0 ≤ k
 ·have hkF : decide (k < 0) = false := decide_eq_false (by omega)
  go_enter Tryz.func55, Tryz.ntmps55
  go_wp2_with fail
  have hb1 : Below W.heap.size W ((W.alloc (.cells #[.pointer (some ⟨b, 0, none⟩)] 78)).alloc (.cells #[.int .i64 k] 3)) := ((Below.refl _ _).alloc (Nat.le_refl _) _).alloc (by simp) _
  have HB := Lib.hid hb1
  have HM := Lib.hid (HM0.out.grow hb1)
  have HL := Lib.hid (HL0.out.later hb1 (Nat.le_refl _))
  have HX := Lib.hid (Bx.grow (Bx.new W #[.pointer (some ⟨b, 0, none⟩)] 78) (alloc_below _ (.cells #[.int .i64 k] 3)))
  have HY := Lib.hid (show Bx (W.heap.size + 1) #[.int .i64 k] 3 ((W.alloc (.cells #[.pointer (some ⟨b, 0, none⟩)] 78)).alloc (.cells #[.int .i64 k] 3)) by simpa using Bx.new (W.alloc (.cells #[.pointer (some ⟨b, 0, none⟩)] 78)) #[.int .i64 k] 3)
  clear hb1 HM0 HL0 hm hbl
  generalize (W.alloc (.cells #[.pointer (some ⟨b, 0, none⟩)] 78)).alloc (.cells #[.int .i64 k] 3) = W1 at *
  go_loopg [26] l.length (fun g i wr => ∃ (j q : Nat), j + g = l.length ∧ i = .int .i64 j ∧ wr = W1.drewN q ∧ (l.take j).all (hasB n k) = true)
  case atStart => exact ⟨0, 0, by omega, rfl, rfl, rfl⟩
  case round =>
   obtain ⟨j, q, hj, rfl, rfl, hall⟩ := hrel
   have HA := Lib.hid hall
   clear hall
   by_cases hlt : j < l.length
   ·obtain ⟨bl, ol, hA2, hb2, e0⟩ := Each.at_ HL.out hlt
    subst hA2
    have HN := Lib.hid (all_take_succ (hasB n k) l j 0 hlt)
    have HF := Lib.hid (thereM_take n k l j hlt)
    have hjI : (j : Int) < (l.length : Int) := by omega
    simp only [Nat.mul_one] at e0
    generalize l.getD j 0 = at_ at *
    go_wp2_with fail
    refine (has_any b n ws at_ k W.heap.size (W.heap.size + 1) (W1.drewN q) (HM.out.later rfl) ((HX.out.cell 0).trans rfl) ((HY.out.cell 0).trans rfl)).mono ?_
    rintro e w' ⟨rfl, q2, rfl⟩
    cases hh : hasB n k at_
    case true =>
     go_wp2_with fail
     go_roundg (gk - 1)
     case measure => omega
     case rel => exact ⟨j + 1, q + q2, by omega, by go_num, rfl, by rw [HN.out, HA.out, hh]; rfl⟩
    case false =>
     have HT := Lib.hid (show thereM n k l = false by unfold thereM; rw [HF.out hh]; simp)
     go_wp2_with fail
     go_ret
     rw [HT.out]
     exact ⟨rfl, HB.out.trans (below_drawn (Below.refl _ _) (q + q2))⟩
   ·obtain rfl : j = l.length := by omega
    have HT := Lib.hid (show thereM n k l = true by unfold thereM; have h := HA.out; rw [List.take_length] at h; rw [decide_eq_true hk, h]; rfl)
    go_wp2_with fail
    go_ret
    rw [HT.out]
    exact ⟨rfl, HB.out.trans (below_drawn (Below.refl _ _) q)⟩
 ·have HT := Lib.hid (show thereM n k l = false by unfold thereM; rw [decide_eq_false hk]; rfl)
  have hkI : k < 0 := by omega
  go_enter Tryz.func55, Tryz.ntmps55
  go_wp2_with fail
  go_ret
  rw [HT.out]
  exact ⟨rfl, ((Below.refl _ _).alloc (Nat.le_refl _) _).alloc (by simp) _⟩
theorem hasB_iff (n : Nat) (k at_ : Int) : hasB n k at_ = true ↔ 1 ≤ at_ ∧ at_ ≤ n + 1 ∧ k ≤ n + 1 - at_ := by unfold hasB; simp [and_assoc]
def inM (n : Nat) (at_ : Int) : Bool := decide (1 ≤ at_) && decide (at_ ≤ n)
theorem there1 (n : Nat) (at_ : Int) : thereM n 1 [at_] = inM n at_ := by
 unfold thereM inM
 rw [Bool.eq_iff_iff]
 simp only [List.all_cons, List.all_nil, Bool.and_true, Bool.and_eq_true, hasB_iff, decide_eq_true_eq]
 omega
theorem ints_new1 (W : World) (x : Int) : Ints (W.alloc (.cells #[.int .i64 x] 3)) (some ⟨W.heap.size, 0, none⟩) [x] :=
 .inr ⟨W.heap.size, 0, rfl, by simp, fun j hj => by
  have : j = 0 := by simpa using hj
  subst this
  exact ((Bx.new W #[.int .i64 x] 3).cell 0).trans rfl⟩
theorem there_eq {b n : Nat} {ws : Nat → Nat} {k : Int} {A : Option Addr} {c : Nat} {l : List Int} {W : World} {r : Bool} (hl : l.length ≤ 140737488355328) (hM : MemAt b n ws W) (hL : Ints W A l) (h : thereM n k l = r) :
 Calls Tryz.prog 55 #[.pointer (some ⟨b, 0, none⟩), .int .i64 k, .slice A l.length c] W (BoolEnd W r) := by
 rw [← h]; exact there_any b n ws k A c l hl W hM hL
def LoadEnd (w : World) (x : Nat) (is : Bool) (e : Ending) (w' : World) : Prop := e = .returned (.tuple #[.int .u16 x, .bool is]) ∧ Below w.heap.size w w'
def loadM (n : Nat) (ws : Nat → Nat) (at_ : Int) : Nat := if inM n at_ then ws (at_.toNat - 1) else 0
theorem load_any (b n : Nat) (ws : Nat → Nat) (at_ : Int) (W : World) (hM : MemAt b n ws W) : Calls Tryz.prog 40 #[.pointer (some ⟨b, 0, none⟩), .int .i64 at_] W (LoadEnd W (loadM n ws at_) (inM n at_)) := by
 have HM0 := Lib.hid hM
 have hbl := hM.lt
 have hn := hM.n_le
 clear hM
 have HB := Lib.hid (alloc_below W (.cells #[.int .i64 at_] 3))
 have HM := Lib.hid (HM0.out.grow HB.out)
 have HI := Lib.hid (ints_new1 W at_)
 cases hi : inM n at_
 case false =>
  have HX := Lib.hid (show loadM n ws at_ = 0 by unfold loadM; rw [hi]; rfl)
  go_enter Tryz.func40, Tryz.ntmps40
  go_wp2_with fail
  refine (there_eq (r := false) (l := [at_]) (by simp) HM.out HI.out (by rw [there1, hi])).mono ?_
  rintro e w' ⟨rfl, hb⟩
  have HB2 := Lib.hid (HB.out.trans (hb.mono HB.out.size))
  clear hb
  go_wp2_with fail
  go_ret2
  rw [HX.out]
  exact ⟨rfl, HB2.out⟩
 case true =>
  have HX := Lib.hid (show loadM n ws at_ = ws (at_.toNat - 1) by unfold loadM; rw [hi]; rfl)
  have h1 : 1 ≤ at_ := by unfold inM at hi; simp at hi; omega
  have h2 : at_ ≤ n := by unfold inM at hi; simp at hi; omega
  have h3 : at_ ≤ 65535 := by omega
  go_enter Tryz.func40, Tryz.ntmps40
  go_wp2_with fail
  refine (there_eq (r := true) (l := [at_]) (by simp) HM.out HI.out (by rw [there1, hi])).mono ?_
  rintro e w' ⟨rfl, hb⟩
  have HB2 := Lib.hid (HB.out.trans (hb.mono HB.out.size))
  have HM2 := Lib.hid (HM.out.grow hb)
  clear hb hi
  have hc := HM2.out.word (at_.toNat - 1) (by omega)
  go_wp2_with fail
  go_ret2
  rw [HX.out]
  exact ⟨rfl, HB2.out⟩
def storeM (n : Nat) (ws : Nat → Nat) (at_ : Int) (x : Nat) : Nat → Nat := if inM n at_ then upd ws (at_.toNat - 1) x else ws
def StoreEnd (bs : List Nat) (b n : Nat) (ws : Nat → Nat) (is : Bool) (w : World) (e : Ending) (w' : World) : Prop := e = .returned (.bool is) ∧ MemAt b n ws w' ∧ Only bs w w' ∧ ∀ k, k < w.heap.size → k ≠ b → w'.heap[k]? = w.heap[k]?
theorem store_any (bs : List Nat) (b n : Nat) (hbs : b ∈ bs) (ws : Nat → Nat) (at_ : Int) (x : Nat) (hx : x < 65536) (W : World) (hM : MemAt b n ws W) : Calls Tryz.prog 29 #[.pointer (some ⟨b, 0, none⟩), .int .i64 at_, .int .u16 x] W (StoreEnd bs b n (storeM n ws at_ x) (inM n at_) W) := by
 have HM0 := Lib.hid hM
 have hbl := hM.lt
 have hn := hM.n_le
 clear hM
 have HB := Lib.hid (alloc_below W (.cells #[.int .i64 at_] 3))
 have HM := Lib.hid (HM0.out.grow HB.out)
 have HI := Lib.hid (ints_new1 W at_)
 cases hi : inM n at_
 case false =>
  have HX := Lib.hid (show storeM n ws at_ x = ws by unfold storeM; rw [hi]; rfl)
  go_enter Tryz.func29, Tryz.ntmps29
  go_wp2_with fail
  refine (there_eq (r := false) (l := [at_]) (by simp) HM.out HI.out (by rw [there1, hi])).mono ?_
  rintro e w' ⟨rfl, hb⟩
  have HB2 := Lib.hid (HB.out.trans (hb.mono HB.out.size))
  have HM2 := Lib.hid (HM.out.grow hb)
  clear hb
  go_wp2_with fail
  go_ret
  rw [HX.out]
  exact ⟨rfl, HM2.out, Only.of_below HB2.out, fun k hk _ => HB2.out.block k hk⟩
 case true =>
  have HX := Lib.hid (show storeM n ws at_ x = upd ws (at_.toNat - 1) x by unfold storeM; rw [hi]; rfl)
  have h1 : 1 ≤ at_ := by unfold inM at hi; simp at hi; omega
  have h2 : at_ ≤ n := by unfold inM at hi; simp at hi; omega
  have h3 : at_ ≤ 65535 := by omega
  go_enter Tryz.func29, Tryz.ntmps29
  go_wp2_with fail
  refine (there_eq (r := true) (l := [at_]) (by simp) HM.out HI.out (by rw [there1, hi])).mono ?_
  rintro e w' ⟨rfl, hb⟩
  have HB2 := Lib.hid (HB.out.trans (hb.mono HB.out.size))
  have HM2 := Lib.hid (HM.out.grow hb)
  clear hb hi
  have hc := HM2.out.word (at_.toNat - 1) (by omega)
  have hf := HM2.out.frozen (at_.toNat - 1)
  go_wp2_with fail
  go_ret
  rw [HX.out]
  exact ⟨rfl, HM2.out.set (by omega) hx, (Only.of_below HB2.out).setCell hbs _, fun k hk hne => (Below.heap_setCell _ _ _ k hne).trans (HB2.out.block k hk)⟩
end Go.Proofs.YtabenhpjgjjgnaaGreatDoor
/- Rows of a machine's memory. -/
namespace Go.Proofs.YtabenhpjgjjgnaaGreatDoor
open Go.RowKit
set_option maxRecDepth 100000
theorem u16_info : (Tryz.prog.info? 50).map (fun i => (i.zero, i.size, i.bytes)) = some (some (.int .u16 0), 1, 2) := by kernel_rfl
theorem etU16 : ET Tryz.prog 40 50 1 2 := et_of Tryz.underlying40 u16_info rfl (by omega)
def wordVals (l : List Nat) : List Value := l.map fun (x : Nat) => Value.int .u16 (x : Int)
theorem wordVals_length (l : List Nat) : (wordVals l).length = l.length := by simp [wordVals]
theorem words_own {w : World} {B : Nat} {A : Option Addr} {c : Nat} {l : List Nat} (h : w.ownsRow B 50 1 (.slice A l.length c) l.length (wordVals l)) (hs : ∀ x ∈ l, x < 65536) : Words w A l := by
 have h' := h
 rcases h.2 with ⟨hv, hx⟩ | ⟨g, cap, cur, hv, hB, hg, _⟩
 ·exact .inl hx
 ·cases hv
  refine .inr ⟨g, 0, rfl, ?_, fun j hj => ?_⟩
  ·rcases Nat.lt_or_ge g w.heap.size with h1 | h1
   ·exact h1
   ·rw [Array.getElem?_eq_none h1] at hg; cases hg
  ·have e : l.getD j 0 = l[j] := by simp [List.getD_eq_getElem?_getD, hj]
   refine ⟨?_, by rw [e]; exact hs _ (List.getElem_mem _)⟩
   have := h'.cells (g := g) rfl j (.int .u16 (l.getD j 0 : Nat)) (by simp [wordVals, List.getD_eq_getElem?_getD, hj])
   rw [WideShapes.add_plain, Nat.zero_add] at this
   simpa using this
theorem wordsLen : Tryz.prog.arrayLen 119 = 65535 := by kernel_rfl
theorem wordsElem : Tryz.prog.underlying 119 = some (.array (Tryz.prog.arrayLen 119) (Tryz.prog.elem 119)) := by kernel_rfl
theorem wordsSize (w : World) : (sizeOf (Tryz.prog.elem 119)).run Tryz.prog w = .ok 1 w := by kernel_rfl
theorem words_own_mask {w : World} {B : Nat} {A : Option Addr} {c : Nat} {l : List Nat} (h : w.ownsRow B 50 1 (.slice A l.length c) l.length (wordVals l)) (hs : ∀ x ∈ l, x < 65536) (bs : List Nat) (hb : ∀ b ∈ bs, b < B) : Words (mask bs w) A l := by
 have hW := words_own h hs
 rcases h.2 with ⟨hv, hx⟩ | ⟨g, cap, cur, hv, hB, hg, _⟩
 ·exact .inl hx
 ·cases hv
  have hg2 : g ∉ bs := fun hm => by have := hb g hm; omega
  have hc : ∀ o, (mask bs w).cell? ⟨g, o, none⟩ = w.cell? ⟨g, o, none⟩ := fun o => by unfold World.cell?; simp only; rw [mask_at bs w hg2]
  rcases hW with h0 | ⟨b, off, e, hlt, hh⟩
  ·exact .inl h0
  ·cases e
   exact .inr ⟨g, 0, rfl, by rw [mask_size]; exact hlt, fun j hj => ⟨(hc _).trans (hh j hj).1, (hh j hj).2⟩⟩
theorem cut_words (b : Nat) (at_ : Int) (k : Nat) (h1 : 1 ≤ at_) (h2 : at_ + k ≤ 65536) : ∃ α c, (k = 0 ∨ α = (⟨b, at_.toNat - 1, none⟩ : Addr)) ∧ ∀ w, (Instr.sliceAt 119 (.pointer (some ⟨b, 0, none⟩)) (some (.int .i64 (at_ - 1))) (some (.int .i64 (at_ - 1 + k))) none).run Tryz.prog w = .ok (.slice (some α) k c) w := by
 refine ⟨if 65535 = at_.toNat - 1 then ⟨b, 0, none⟩ else ⟨b, at_.toNat - 1, none⟩, 65535 - (at_.toNat - 1), ?_, fun w => ?_⟩
 ·split
  ·left; omega
  ·right; rfl
 ·rw [run_sliceAt_array_lh w 119 ⟨b, 0, none⟩ wordsElem .i64 .i64 (at_ - 1) (at_ - 1 + k) (by omega) (by omega) (by rw [wordsLen]; omega), wordsSize]
  simp only [Result.andThen_ok, slicedAt, wordsLen]
  have e1 : (at_ - 1).toNat = at_.toNat - 1 := by omega
  have e2 : (at_ - 1 + k).toNat = at_.toNat - 1 + k := by omega
  rw [e1, e2, WideShapes.add_plain, Nat.zero_add, Nat.mul_one, show at_.toNat - 1 + k - (at_.toNat - 1) = k by omega]
def rowM (ws : Nat → Nat) (at_ : Int) (n : Nat) : List Nat := (List.range n).map fun i => ws (at_.toNat - 1 + i)
theorem rowM_length (ws : Nat → Nat) (at_ : Int) (n : Nat) : (rowM ws at_ n).length = n := by simp [rowM]
theorem rowM_get (ws : Nat → Nat) (at_ : Int) (n i : Nat) (h : i < n) : (rowM ws at_ n).getD i 0 = ws (at_.toNat - 1 + i) := by simp [rowM, List.getD_eq_getElem?_getD, h]
def RowEnd (l : List Nat) (w : World) (e : Ending) (w' : World) : Prop := ∃ A c, e = .returned (.tuple #[.slice A l.length c, .bool true]) ∧ (∀ bs : List Nat, (∀ b ∈ bs, b < w.heap.size) → Words (mask bs w') A l) ∧ Below w.heap.size w w'
theorem row_any (b n : Nat) (ws : Nat → Nat) (at_ : Int) (k : Nat) (h1 : 1 ≤ at_) (h2 : at_ + k ≤ n + 1) (W : World) (hM : MemAt b n ws W) : Calls Tryz.prog 211 #[.pointer (some ⟨b, 0, none⟩), .int .i64 at_, .int .i64 k] W (RowEnd (rowM ws at_ k) W) := by
 have HM0 := Lib.hid hM
 have hbl := hM.lt
 have hn := hM.n_le
 clear hM
 have HB := Lib.hid (alloc_below W (.cells #[.int .i64 at_] 3))
 have HM := Lib.hid (HM0.out.grow HB.out)
 have HI := Lib.hid (ints_new1 W at_)
 have hT : thereM n k [at_] = true := by
  unfold thereM
  simp only [List.all_cons, List.all_nil, Bool.and_true, Bool.and_eq_true, hasB_iff, decide_eq_true_eq]
  omega
 have HT := Lib.hid hT
 obtain ⟨α, ca, hα, hcut⟩ := cut_words b at_ k h1 (by omega)
 clear hT
 have hkI : (0 : Int) ≤ k := by omega
 have h3 : at_ ≤ 65536 := by omega
 have h4 : (k : Int) ≤ 65535 := by omega
 have h5 : at_ + k ≤ 65536 := by omega
 go_enter Tryz.func211, Tryz.ntmps211
 go_wp2_with fail
 refine (there_eq (r := true) (l := [at_]) (by simp) HM.out HI.out HT.out).mono ?_
 rintro e w' ⟨rfl, hb⟩
 have HB2 := Lib.hid (HB.out.trans (hb.mono HB.out.size))
 have HM2 := Lib.hid (HM.out.grow hb)
 clear hb
 have HSrc := Lib.hid (show Src Tryz.prog 1 40 (.slice (some α) k ca) k (wordVals (rowM ws at_ k)) w' from Src.ofSlice _ Tryz.underlying40 α k ca _ (by rw [wordVals_length, rowM_length, Nat.mul_one]) (fun j u hu => by
  have hj : j < k := by
   rcases Nat.lt_or_ge j k with h' | h'
   ·exact h'
   ·rw [List.getElem?_eq_none (by rw [wordVals_length, rowM_length]; exact h')] at hu; cases hu
  rcases hα with h0 | rfl
  ·omega
  ·rw [WideShapes.add_plain, HM2.out.word _ (by omega)]
   simpa [wordVals, rowM, hj] using hu) (by intro u hu; simp [wordVals] at hu; obtain ⟨x, _, rfl⟩ := hu; rfl))
 clear hα
 go_wp2_with (at_builtin; refine wpList_app etU16 rfl _ _ rfl w'.heap.size (.slice none 0 0) 0 [] rfl (World.ownsRow_nil _ _ _ _) _ k (wordVals (rowM ws at_ k)) rfl HSrc.out (by omega) (by unfold maxLen; omega) (Nat.le_refl _) ?_; intro v9 w9 hA9)
 obtain ⟨A9, c9, hv9⟩ := own_slice' hA9.own
 subst hv9
 have HO := Lib.hid hA9.own
 have HG := Lib.hid (hA9.below HB2.out (Nat.le_trans HB2.out.size (Nat.le_refl _)) (World.ownsRow_nil w' w'.heap.size 50 1) (HB2.out.size))
 clear hA9
 simp only [Nat.zero_add, List.nil_append] at HO ⊢
 go_wp2_with fail
 refine bodyPost_ret (v := .tuple #[.slice A9 k c9, .bool true]) (by simp [results, Tryz.results211, go_sem]) rfl ⟨A9, c9, by rw [rowM_length], ?_, HG.out⟩
 have h := HO.out
 intro bs hbs
 exact words_own_mask (B := w'.heap.size) (c := c9) (by rw [rowM_length]; exact h) (fun x hx => by
  simp [rowM] at hx
  obtain ⟨i, _, rfl⟩ := hx
  exact HM2.out.small _) bs (fun b hb => Nat.lt_of_lt_of_le (hbs b hb) HB2.out.size)
def zeroM (ws : Nat → Nat) (o k : Nat) : Nat → Nat := fun j => if o ≤ j ∧ j < o + k then 0 else ws j
theorem MemAt.zeros {b n : Nat} : ∀ (k o : Nat) {ws : Nat → Nat} {W : World}, MemAt b n ws W → o + k ≤ 65535 → MemAt b n (zeroM ws o k) (W.setCells b o (List.replicate k (.int .u16 0)))
 | 0, o, ws, W, h, _ => by
   have e : zeroM ws o 0 = ws := by funext j; unfold zeroM; rw [if_neg (by omega)]
   rw [e]; exact h
 | k + 1, o, ws, W, h, hk => by
   have h1 := MemAt.zeros k (o + 1) (h.set (i := o) (x := 0) (by omega) (by omega)) (by omega)
   have e : zeroM (upd ws o 0) (o + 1) k = zeroM ws o (k + 1) := by
    funext j; unfold zeroM upd
    by_cases h1 : o + 1 ≤ j ∧ j < o + 1 + k
    ·rw [if_pos h1, if_pos (by omega)]
    ·rw [if_neg h1]
     by_cases h2 : j = o
     ·rw [if_pos h2, if_pos (by omega)]
     ·rw [if_neg h2, if_neg (by omega)]
   rw [e] at h1
   exact h1
theorem Only.setCells {bs : List Nat} {b : Nat} (hb : b ∈ bs) : ∀ (vs : List Value) (o : Nat) {W W' : World}, Only bs W W' → Only bs W (W'.setCells b o vs)
 | [], _, _, _, h => h
 | v :: vs, o, _, _, h => Only.setCells hb vs (o + 1) (Only.setCell (a := ⟨b, o, none⟩) h hb v)
def clearM (n : Nat) (ws : Nat → Nat) (at_ : Int) (k : Nat) : Nat → Nat := if thereM n k [at_] then zeroM ws (at_.toNat - 1) k else ws
theorem u16_zero (w : World) : (zeroValue 50).run Tryz.prog w = .ok (.int .u16 0) w := by kernel_rfl
theorem clear_any (bs : List Nat) (b n : Nat) (hbs : b ∈ bs) (ws : Nat → Nat) (at_ : Int) (k : Nat) (hk : k ≤ 65535) (W : World) (hM : MemAt b n ws W) : Calls Tryz.prog 124 #[.pointer (some ⟨b, 0, none⟩), .int .i64 at_, .int .i64 k] W (StoreEnd bs b n (clearM n ws at_ k) (thereM n k [at_]) W) := by
 have HM0 := Lib.hid hM
 have hbl := hM.lt
 have hn := hM.n_le
 clear hM
 have HB := Lib.hid (alloc_below W (.cells #[.int .i64 at_] 3))
 have HM := Lib.hid (HM0.out.grow HB.out)
 have HI := Lib.hid (ints_new1 W at_)
 cases hi : thereM n k [at_]
 case false =>
  have HX := Lib.hid (show clearM n ws at_ k = ws by unfold clearM; rw [hi]; rfl)
  have HT := Lib.hid hi
  clear hi
  go_enter Tryz.func124, Tryz.ntmps124
  go_wp2_with fail
  refine (there_eq (r := false) (l := [at_]) (by simp) HM.out HI.out HT.out).mono ?_
  rintro e w' ⟨rfl, hb⟩
  have HB2 := Lib.hid (HB.out.trans (hb.mono HB.out.size))
  have HM2 := Lib.hid (HM.out.grow hb)
  clear hb
  go_wp2_with fail
  go_ret
  rw [HX.out]
  exact ⟨rfl, HM2.out, Only.of_below HB2.out, fun k hk _ => HB2.out.block k hk⟩
 case true =>
  have HX := Lib.hid (show clearM n ws at_ k = zeroM ws (at_.toNat - 1) k by unfold clearM; rw [hi]; rfl)
  have HT := Lib.hid hi
  have h123 : 1 ≤ at_ ∧ at_ + k ≤ n + 1 := by
   unfold thereM at hi
   simp only [List.all_cons, List.all_nil, Bool.and_true, Bool.and_eq_true, hasB_iff, decide_eq_true_eq] at hi
   omega
  obtain ⟨h1, h2⟩ := h123
  clear hi
  have h5 : at_ + k ≤ 65536 := by omega
  have h3 : at_ ≤ 65536 := by omega
  have h4 : (k : Int) ≤ 65535 := by omega
  have hkI : (0 : Int) ≤ k := by omega
  obtain ⟨α, ca, hα, hcut⟩ := cut_words b at_ k h1 (by omega)
  go_enter Tryz.func124, Tryz.ntmps124
  go_wp2_with fail
  refine (there_eq (r := true) (l := [at_]) (by simp) HM.out HI.out HT.out).mono ?_
  rintro e w' ⟨rfl, hb⟩
  have HB2 := Lib.hid (HB.out.trans (hb.mono HB.out.size))
  have HM2 := Lib.hid (HM.out.grow hb)
  clear hb
  have hcl : ∀ ty, (Builtin.clear_ #[40] ty #[.slice (some α) k ca]).run Tryz.prog w' = .ok (.tuple #[]) (w'.setCells b (at_.toNat - 1) (List.replicate k (.int .u16 0))) := fun ty => by
   rcases Nat.eq_zero_or_pos k with h0 | h0
   ·subst h0
    simp [Builtin.clear_, run_underlying Tryz.underlying40]
    rfl
   ·rcases hα with h' | rfl
    ·omega
    ·exact Lib.run_clear_slice w' 40 50 ty (.int .u16 0) Tryz.underlying40 u16_zero rfl rfl b _ k ca h0 (fun j hj => by rw [HM2.out.word _ (by omega)]; rfl) (fun j hj => HM2.out.frozen _)
  have HMz := Lib.hid (HM2.out.zeros k (at_.toNat - 1) (by omega))
  have HOz := Lib.hid (Only.setCells (bs := bs) hbs (List.replicate k (.int .u16 0)) (at_.toNat - 1) (Only.of_below HB2.out))
  have HFz := Lib.hid (fun j (hj : j < W.heap.size) (hne : j ≠ b) => ((setCells_kept b (List.replicate k (.int .u16 0)) (at_.toNat - 1) w').2.2.2.2 j hne).trans (HB2.out.block j hj))
  clear hα
  generalize hz : w'.setCells b (at_.toNat - 1) (List.replicate k (.int .u16 0)) = wz at *
  clear hz
  go_wp2_with (simp only)
  go_ret
  rw [HX.out]
  exact ⟨rfl, HMz.out, HOz.out, HFz.out⟩
end Go.Proofs.YtabenhpjgjjgnaaGreatDoor
/- Sums of numbers that are not below 0, as floating-point words. -/
namespace Go.Proofs.YtabenhpjgjjgnaaGreatDoor
open Go.RowKit
def fTop : Nat := Ieee.Format.infRung Ieee.double
def PosD : Ieee.Datum → Prop
 | .number s _ _ => s = false
 | .infinity s => s = false
 | .nan .. => False
theorem read_pos (x : Nat) (h : x ≤ fTop) : PosD (Ieee.Format.read Ieee.double x) := by
 have h1 : x / Ieee.Format.signWeight Ieee.double = 0 := Nat.div_eq_of_lt (Nat.lt_of_le_of_lt h (by decide))
 have h2 : x % Ieee.Format.signWeight Ieee.double = x := Nat.mod_eq_of_lt (Nat.lt_of_le_of_lt h (by decide))
 unfold Ieee.Format.read
 simp only [h1, h2]
 split
 ·rfl
 ·split
  ·rfl
  ·split
   ·rfl
   ·rename_i a b c
    unfold fTop at h
    omega
theorem write_pos (d : Ieee.Datum) (h : PosD d) : Ieee.Format.write Ieee.double d ≤ fTop := by
 cases d with
 | number s m p =>
   have hs : s = false := h
   subst hs
   show Ieee.Format.nearest Ieee.double false m p ≤ fTop
   unfold Ieee.Format.nearest Ieee.Format.word fTop
   by_cases hm : m = 0
   ·rw [if_pos hm]; simp
   ·rw [if_neg hm]
    simp only [Bool.false_eq_true, if_false]
    exact Nat.min_le_right _ _
 | infinity s =>
   have hs : s = false := h
   subst hs
   exact Nat.le_refl _
 | nan s t => cases h
theorem sum_pos (d e : Ieee.Datum) (hd : PosD d) (he : PosD e) : ∃ g, Ieee.Datum.sum d e = some g ∧ PosD g := by
 cases d with
 | nan s t => cases hd
 | infinity s =>
   have hs : s = false := hd
   subst hs
   cases e with
   | nan s t => cases he
   | infinity t =>
     have ht : t = false := he
     subst ht
     exact ⟨_, rfl, rfl⟩
   | number t n j => exact ⟨_, rfl, rfl⟩
 | number s m i =>
   have hs : s = false := hd
   subst hs
   cases e with
   | nan s t => cases he
   | infinity t =>
     have ht : t = false := he
     subst ht
     exact ⟨_, rfl, rfl⟩
   | number t n j =>
     have ht : t = false := he
     subst ht
     refine ⟨_, rfl, ?_⟩
     unfold PosD
     simp only [Ieee.signed, Bool.false_eq_true, if_false]
     split
     ·rfl
     ·rw [decide_eq_false_iff_not]
      exact Int.not_lt.2 (Int.add_nonneg (Int.natCast_nonneg _) (Int.natCast_nonneg _))
theorem add_pos (x y : Nat) (hx : x ≤ fTop) (hy : y ≤ fTop) : ∃ z, floatBits .add .f64 x y = some z ∧ z ≤ fTop := by
 obtain ⟨g, h1, h2⟩ := sum_pos _ _ (read_pos x hx) (read_pos y hy)
 refine ⟨Ieee.Format.write Ieee.double g, ?_, write_pos g h2⟩
 show Ieee.Format.add Ieee.double x y = _
 unfold Ieee.Format.add
 rw [h1]; rfl
theorem ofInt_pos (n : Nat) : floatOfInt .f64 (n : Int) ≤ fTop := by
 show Ieee.Format.write Ieee.double (.number (decide ((n : Int) < 0)) (n : Int).natAbs 0) ≤ fTop
 exact write_pos _ (decide_eq_false (by omega))
theorem csum_pos (a b c d : Nat) (ha : a ≤ fTop) (hb : b ≤ fTop) (hc : c ≤ fTop) (hd : d ≤ fTop) : ∃ re im, (re ≤ fTop ∧ im ≤ fTop) ∧ ∀ (P : Program) (w : World) (t : TypeId), (binOp .add t (.complex .f64 a b) (.complex .f64 c d)).run P w = .ok (.complex .f64 re im) w := by
 obtain ⟨re, h1, h2⟩ := add_pos a c ha hc
 obtain ⟨im, h3, h4⟩ := add_pos b d hb hd
 exact ⟨re, im, ⟨h2, h4⟩, fun P w t => run_complex_sum w .add (.inl rfl) t .f64 a b c d re im (by unfold cSumBits; rw [h1, h3]; rfl)⟩
end Go.Proofs.YtabenhpjgjjgnaaGreatDoor
