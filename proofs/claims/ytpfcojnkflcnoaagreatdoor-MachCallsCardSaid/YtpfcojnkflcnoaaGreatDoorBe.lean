/- A machine's memory of words: which words are there, loads, stores. Rows of a machine's memory. Sums of numbers that are not below 0, as floating-point words: there always is one. A machine in memory: what is fixed, what turns, how it lies; what each store leaves. A machine's procedure that runs; where its pushed words begin. A machine pushes and pops words. Condition: what lies in memory can lie there; what each theorem says. -/
import Derived.Test.YtpfcojnkflcnoaaGreatDoorBa
import Derived.Deep.QuietTactic
import Derived.BigQuiet
import Derived.Deep.LoopGhost
import Derived.IntWalk
import Derived.Lib.SliceRun
import Derived.BigFrame
import Derived.Laws.ComplexArith
import Derived.StillTailTactics
import Derived.Deep.RegionHeld3
/- A machine's memory of words: which words are there, loads, stores. Condition: what lies in memory can lie there. -/
namespace Go.Proofs.YtpfcojnkflcnoaaGreatDoor
open Go.RowKit
set_option maxRecDepth 100000

/-- Memory b has n words, ws (by place, from 0 on). -/
structure MemAt (b n : Nat) (ws : Nat → Nat) (W : World) : Prop where
  blk : ∃ cur, W.heap[b]? = some (.cells cur 111 (0, 0)) ∧ cur.size = 65537
  word : ∀ i, i < 65535 → W.cell? ⟨b, i, none⟩ = some (.int .u16 (ws i))
  small : ∀ i, ws i < 65536
  len : W.cell? ⟨b, 65535, none⟩ = some (.int .i64 n)
  made : W.cell? ⟨b, 65536, none⟩ = some (.bool true)
  n_le : n ≤ 65535
theorem MemAt.lt {b n : Nat} {ws : Nat → Nat} {W : World} (h : MemAt b n ws W) : b < W.heap.size := lt_of_cell h.made
theorem MemAt.later {b n : Nat} {ws : Nat → Nat} {W W' : World} (h : MemAt b n ws W) (hb : W'.heap[b]? = W.heap[b]?) : MemAt b n ws W' := by
  have hc : ∀ o, W'.cell? ⟨b, o, none⟩ = W.cell? ⟨b, o, none⟩ := fun o => by unfold World.cell?; simp only; rw [hb]
  obtain ⟨cur, h1, h2⟩ := h.blk
  exact ⟨⟨cur, hb.trans h1, h2⟩, fun i hi => (hc i).trans (h.word i hi), h.small, (hc _).trans h.len, (hc _).trans h.made, h.n_le⟩
theorem MemAt.grow {b n : Nat} {ws : Nat → Nat} {W W' : World} (h : MemAt b n ws W) (hb : Below W.heap.size W W') : MemAt b n ws W' := h.later (hb.block b h.lt)
theorem MemAt.frozen {b n : Nat} {ws : Nat → Nat} {W : World} (h : MemAt b n ws W) (i : Nat) : W.frozen? ⟨b, i, none⟩ = false := by
  obtain ⟨cur, h1, _⟩ := h.blk
  unfold World.frozen?; rw [h1]; simp
def upd (ws : Nat → Nat) (i x : Nat) : Nat → Nat := fun j => if j = i then x else ws j
theorem MemAt.set {b n : Nat} {ws : Nat → Nat} {W : World} (h : MemAt b n ws W) {i x : Nat} (hi : i < 65535) (hx : x < 65536) : MemAt b n (upd ws i x) (W.setCell ⟨b, i, none⟩ (.int .u16 x)) := by
  obtain ⟨cur, h1, h2⟩ := h.blk
  have hs : Bx b (cur.setIfInBounds i (.int .u16 x)) 111 (W.setCell ⟨b, i, none⟩ (.int .u16 x)) := Bx.set h1 i _
  have hold : ∀ o, o ≠ i → (W.setCell ⟨b, i, none⟩ (.int .u16 x)).cell? ⟨b, o, none⟩ = W.cell? ⟨b, o, none⟩ := fun o ho => by
    rw [hs.cell o, Bx.cell h1 o, Array.getElem?_setIfInBounds_ne (by omega)]
  refine ⟨⟨_, hs, by simp [h2]⟩, fun j hj => ?_, fun j => ?_, (hold _ (by omega)).trans h.len, (hold _ (by omega)).trans h.made, h.n_le⟩
  · unfold upd
    split
    · rename_i e
      subst e
      rw [hs.cell j, Array.getElem?_setIfInBounds_self_of_lt (by omega)]
    · rename_i e
      rw [hold j e]; exact h.word j hj
  · unfold upd; split
    · exact hx
    · exact h.small j

def hasB (n : Nat) (k at_ : Int) : Bool := decide (1 ≤ at_) && decide (at_ ≤ n + 1) && decide (k ≤ n + 1 - at_)
theorem has_any (b n : Nat) (ws : Nat → Nat) (at_ k : Int) (x y : Nat) (W : World) (hM : MemAt b n ws W) (hx : W.cell? ⟨x, 0, none⟩ = some (.pointer (some ⟨b, 0, none⟩))) (hy : W.cell? ⟨y, 0, none⟩ = some (.int .i64 k)) :
    Calls Tryz.prog 111 #[.int .i64 at_, .pointer (some ⟨x, 0, none⟩), .pointer (some ⟨y, 0, none⟩)] W (fun e w' => e = .returned (.bool (hasB n k at_)) ∧ ∃ q, w' = W.drewN q) := by
  have hl := hM.len
  have hn := hM.n_le
  have hnI : (n : Int) ≤ 65535 := by omega
  have hn0 : (0 : Int) ≤ n := by omega
  clear hM
  unfold hasB
  by_cases h1 : 1 ≤ at_
  · by_cases h2 : at_ ≤ n + 1
    · by_cases h3 : k ≤ n + 1 - at_
      · rw [decide_eq_true h1, decide_eq_true h2, decide_eq_true h3]
        go_enter Tryz.func111, Tryz.ntmps111
        go_wp2
        go_quiet (fail)
        go_wp2
        go_ret
        exact ⟨rfl, _, rfl⟩
      · have d3 := decide_eq_false h3
        rw [decide_eq_true h1, decide_eq_true h2, d3]
        clear h3
        go_enter Tryz.func111, Tryz.ntmps111
        go_wp2
        go_quiet (fail)
        go_wp2
        go_ret
        exact ⟨rfl, _, rfl⟩
    · have d2 := decide_eq_false h2
      rw [decide_eq_true h1, d2]
      clear h2
      go_enter Tryz.func111, Tryz.ntmps111
      go_wp2
      go_quiet (fail)
      go_wp2
      go_ret
      exact ⟨rfl, _, rfl⟩
  · have d1 := decide_eq_false h1
    rw [d1]
    clear h1
    go_enter Tryz.func111, Tryz.ntmps111
    go_wp2
    go_quiet (fail)
    go_wp2
    go_ret
    exact ⟨rfl, _, rfl⟩

/-- Are rows of k words there, at each of those places? -/
def thereM (n : Nat) (k : Int) (l : List Int) : Bool := decide (0 ≤ k) && l.all (hasB n k)
theorem thereM_take (n : Nat) (k : Int) (l : List Int) (j : Nat) (hj : j < l.length) (h : hasB n k (l.getD j 0) = false) : l.all (hasB n k) = false := all_false_at (hasB n k) l j 0 hj h
set_option maxHeartbeats 1000000 in
theorem there_any (b n : Nat) (ws : Nat → Nat) (k : Int) (A : Option Addr) (c : Nat) (l : List Int) (hl : l.length ≤ 140737488355328) (W : World) (hM : MemAt b n ws W) (hL : Ints W A l) :
    Calls Tryz.prog 47 #[.pointer (some ⟨b, 0, none⟩), .int .i64 k, .slice A l.length c] W (BoolEnd W (thereM n k l)) := by
  have HM0 := Lib.hid hM
  have HL0 := Lib.hid hL
  have hbl := hM.lt
  have hm := hM.made
  clear hM hL
  by_cases hk : 0 ≤ k
  · have hkF : decide (k < 0) = false := decide_eq_false (by omega)
    go_enter Tryz.func47, Tryz.ntmps47
    go_wp2_with fail
    have hb1 : Below W.heap.size W ((W.alloc (.cells #[.pointer (some ⟨b, 0, none⟩)] 76)).alloc (.cells #[.int .i64 k] 3)) := ((Below.refl _ _).alloc (Nat.le_refl _) _).alloc (by simp) _
    have HB := Lib.hid hb1
    have HM := Lib.hid (HM0.out.grow hb1)
    have HL := Lib.hid (HL0.out.later hb1 (Nat.le_refl _))
    have HX := Lib.hid (Bx.grow (Bx.new W #[.pointer (some ⟨b, 0, none⟩)] 76) (alloc_below _ (.cells #[.int .i64 k] 3)))
    have HY := Lib.hid (show Bx (W.heap.size + 1) #[.int .i64 k] 3 ((W.alloc (.cells #[.pointer (some ⟨b, 0, none⟩)] 76)).alloc (.cells #[.int .i64 k] 3)) by simpa using Bx.new (W.alloc (.cells #[.pointer (some ⟨b, 0, none⟩)] 76)) #[.int .i64 k] 3)
    clear hb1 HM0 HL0 hm hbl
    generalize (W.alloc (.cells #[.pointer (some ⟨b, 0, none⟩)] 76)).alloc (.cells #[.int .i64 k] 3) = W1 at *
    go_loopg [26] l.length (fun g i wr => ∃ (j q : Nat), j + g = l.length ∧ i = .int .i64 j ∧ wr = W1.drewN q ∧ (l.take j).all (hasB n k) = true)
    case atStart => exact ⟨0, 0, by omega, rfl, rfl, rfl⟩
    case round =>
      obtain ⟨j, q, hj, rfl, rfl, hall⟩ := hrel
      have HA := Lib.hid hall
      clear hall
      by_cases hlt : j < l.length
      · obtain ⟨bl, ol, hA2, hb2, e0⟩ := Each.at_ HL.out hlt
        subst hA2
        have HN := Lib.hid (all_take_succ (hasB n k) l j 0 hlt)
        have HF := Lib.hid (thereM_take n k l j hlt)
        have hjI : (j : Int) < (l.length : Int) := by omega
        simp only [Nat.mul_one] at e0
        generalize l.getD j 0 = at_ at *
        go_wp2_with fail
        refine (has_any b n ws at_ k W.heap.size (W.heap.size + 1) (W1.drewN q) (HM.out.later rfl) ((HX.out.cell 0).trans rfl) ((HY.out.cell 0).trans rfl)).mono ?_
        rintro e w' ⟨rfl, q2, rfl⟩
        cases hh : hasB n k at_
        case true =>
          go_wp2_with fail
          go_roundg (gk - 1)
          case measure => omega
          case rel => exact ⟨j + 1, q + q2, by omega, by go_num, rfl, by rw [HN.out, HA.out, hh]; rfl⟩
        case false =>
          have HT := Lib.hid (show thereM n k l = false by unfold thereM; rw [HF.out hh]; simp)
          go_wp2_with fail
          go_ret
          rw [HT.out]
          exact ⟨rfl, HB.out.trans (below_drawn (Below.refl _ _) (q + q2))⟩
      · obtain rfl : j = l.length := by omega
        have HT := Lib.hid (show thereM n k l = true by unfold thereM; have h := HA.out; rw [List.take_length] at h; rw [decide_eq_true hk, h]; rfl)
        go_wp2_with fail
        go_ret
        rw [HT.out]
        exact ⟨rfl, HB.out.trans (below_drawn (Below.refl _ _) q)⟩
  · have HT := Lib.hid (show thereM n k l = false by unfold thereM; rw [decide_eq_false hk]; rfl)
    have hkI : k < 0 := by omega
    go_enter Tryz.func47, Tryz.ntmps47
    go_wp2_with fail
    go_ret
    rw [HT.out]
    exact ⟨rfl, ((Below.refl _ _).alloc (Nat.le_refl _) _).alloc (by simp) _⟩

theorem hasB_iff (n : Nat) (k at_ : Int) : hasB n k at_ = true ↔ 1 ≤ at_ ∧ at_ ≤ n + 1 ∧ k ≤ n + 1 - at_ := by unfold hasB; simp [and_assoc]
/-- Is the word at that address there? -/
def inM (n : Nat) (at_ : Int) : Bool := decide (1 ≤ at_) && decide (at_ ≤ n)
theorem there1 (n : Nat) (at_ : Int) : thereM n 1 [at_] = inM n at_ := by
  unfold thereM inM
  rw [Bool.eq_iff_iff]
  simp only [List.all_cons, List.all_nil, Bool.and_true, Bool.and_eq_true, hasB_iff, decide_eq_true_eq]
  omega
theorem ints_new1 (W : World) (x : Int) : Ints (W.alloc (.cells #[.int .i64 x] 3)) (some ⟨W.heap.size, 0, none⟩) [x] :=
  .inr ⟨W.heap.size, 0, rfl, by simp, fun j hj => by
    have : j = 0 := by simpa using hj
    subst this
    exact ((Bx.new W #[.int .i64 x] 3).cell 0).trans rfl⟩
theorem there_eq {b n : Nat} {ws : Nat → Nat} {k : Int} {A : Option Addr} {c : Nat} {l : List Int} {W : World} {r : Bool} (hl : l.length ≤ 140737488355328) (hM : MemAt b n ws W) (hL : Ints W A l) (h : thereM n k l = r) :
    Calls Tryz.prog 47 #[.pointer (some ⟨b, 0, none⟩), .int .i64 k, .slice A l.length c] W (BoolEnd W r) := by
  rw [← h]; exact there_any b n ws k A c l hl W hM hL
def LoadEnd (w : World) (x : Nat) (is : Bool) (e : Ending) (w' : World) : Prop := e = .returned (.tuple #[.int .u16 x, .bool is]) ∧ Below w.heap.size w w'
/-- What is loaded there. -/
def loadM (n : Nat) (ws : Nat → Nat) (at_ : Int) : Nat := if inM n at_ then ws (at_.toNat - 1) else 0
theorem load_any (b n : Nat) (ws : Nat → Nat) (at_ : Int) (W : World) (hM : MemAt b n ws W) : Calls Tryz.prog 43 #[.pointer (some ⟨b, 0, none⟩), .int .i64 at_] W (LoadEnd W (loadM n ws at_) (inM n at_)) := by
  have HM0 := Lib.hid hM
  have hbl := hM.lt
  have hn := hM.n_le
  clear hM
  have HB := Lib.hid (alloc_below W (.cells #[.int .i64 at_] 3))
  have HM := Lib.hid (HM0.out.grow HB.out)
  have HI := Lib.hid (ints_new1 W at_)
  cases hi : inM n at_
  case false =>
    have HX := Lib.hid (show loadM n ws at_ = 0 by unfold loadM; rw [hi]; rfl)
    go_enter Tryz.func43, Tryz.ntmps43
    go_wp2_with fail
    refine (there_eq (r := false) (l := [at_]) (by simp) HM.out HI.out (by rw [there1, hi])).mono ?_
    rintro e w' ⟨rfl, hb⟩
    have HB2 := Lib.hid (HB.out.trans (hb.mono HB.out.size))
    clear hb
    go_wp2_with fail
    go_ret2
    rw [HX.out]
    exact ⟨rfl, HB2.out⟩
  case true =>
    have HX := Lib.hid (show loadM n ws at_ = ws (at_.toNat - 1) by unfold loadM; rw [hi]; rfl)
    have h1 : 1 ≤ at_ := by unfold inM at hi; simp at hi; omega
    have h2 : at_ ≤ n := by unfold inM at hi; simp at hi; omega
    have h3 : at_ ≤ 65535 := by omega
    go_enter Tryz.func43, Tryz.ntmps43
    go_wp2_with fail
    refine (there_eq (r := true) (l := [at_]) (by simp) HM.out HI.out (by rw [there1, hi])).mono ?_
    rintro e w' ⟨rfl, hb⟩
    have HB2 := Lib.hid (HB.out.trans (hb.mono HB.out.size))
    have HM2 := Lib.hid (HM.out.grow hb)
    clear hb hi
    have hc := HM2.out.word (at_.toNat - 1) (by omega)
    go_wp2_with fail
    go_ret2
    rw [HX.out]
    exact ⟨rfl, HB2.out⟩

/-- What a store leaves. -/
def storeM (n : Nat) (ws : Nat → Nat) (at_ : Int) (x : Nat) : Nat → Nat := if inM n at_ then upd ws (at_.toNat - 1) x else ws
def StoreEnd (bs : List Nat) (b n : Nat) (ws : Nat → Nat) (is : Bool) (w : World) (e : Ending) (w' : World) : Prop := e = .returned (.bool is) ∧ MemAt b n ws w' ∧ Only bs w w' ∧ ∀ k, k < w.heap.size → k ≠ b → w'.heap[k]? = w.heap[k]?
theorem store_any (bs : List Nat) (b n : Nat) (hbs : b ∈ bs) (ws : Nat → Nat) (at_ : Int) (x : Nat) (hx : x < 65536) (W : World) (hM : MemAt b n ws W) : Calls Tryz.prog 30 #[.pointer (some ⟨b, 0, none⟩), .int .i64 at_, .int .u16 x] W (StoreEnd bs b n (storeM n ws at_ x) (inM n at_) W) := by
  have HM0 := Lib.hid hM
  have hbl := hM.lt
  have hn := hM.n_le
  clear hM
  have HB := Lib.hid (alloc_below W (.cells #[.int .i64 at_] 3))
  have HM := Lib.hid (HM0.out.grow HB.out)
  have HI := Lib.hid (ints_new1 W at_)
  cases hi : inM n at_
  case false =>
    have HX := Lib.hid (show storeM n ws at_ x = ws by unfold storeM; rw [hi]; rfl)
    go_enter Tryz.func30, Tryz.ntmps30
    go_wp2_with fail
    refine (there_eq (r := false) (l := [at_]) (by simp) HM.out HI.out (by rw [there1, hi])).mono ?_
    rintro e w' ⟨rfl, hb⟩
    have HB2 := Lib.hid (HB.out.trans (hb.mono HB.out.size))
    have HM2 := Lib.hid (HM.out.grow hb)
    clear hb
    go_wp2_with fail
    go_ret
    rw [HX.out]
    exact ⟨rfl, HM2.out, Only.of_below HB2.out, fun k hk _ => HB2.out.block k hk⟩
  case true =>
    have HX := Lib.hid (show storeM n ws at_ x = upd ws (at_.toNat - 1) x by unfold storeM; rw [hi]; rfl)
    have h1 : 1 ≤ at_ := by unfold inM at hi; simp at hi; omega
    have h2 : at_ ≤ n := by unfold inM at hi; simp at hi; omega
    have h3 : at_ ≤ 65535 := by omega
    go_enter Tryz.func30, Tryz.ntmps30
    go_wp2_with fail
    refine (there_eq (r := true) (l := [at_]) (by simp) HM.out HI.out (by rw [there1, hi])).mono ?_
    rintro e w' ⟨rfl, hb⟩
    have HB2 := Lib.hid (HB.out.trans (hb.mono HB.out.size))
    have HM2 := Lib.hid (HM.out.grow hb)
    clear hb hi
    have hc := HM2.out.word (at_.toNat - 1) (by omega)
    have hf := HM2.out.frozen (at_.toNat - 1)
    go_wp2_with fail
    go_ret
    rw [HX.out]
    exact ⟨rfl, HM2.out.set (by omega) hx, (Only.of_below HB2.out).setCell hbs _, fun k hk hne => (Below.heap_setCell _ _ _ k hne).trans (HB2.out.block k hk)⟩
end Go.Proofs.YtpfcojnkflcnoaaGreatDoor
/- Rows of a machine's memory. Condition: what lies in memory can lie there. -/
namespace Go.Proofs.YtpfcojnkflcnoaaGreatDoor
open Go.RowKit
set_option maxRecDepth 100000

theorem u16_info : (Tryz.prog.info? 22).map (fun i => (i.zero, i.size, i.bytes)) = some (some (.int .u16 0), 1, 2) := by kernel_rfl
theorem etU16 : ET Tryz.prog 71 22 1 2 := et_of Tryz.underlying71 u16_info rfl (by omega)
def wordVals (l : List Nat) : List Value := l.map fun (x : Nat) => Value.int .u16 (x : Int)
theorem wordVals_length (l : List Nat) : (wordVals l).length = l.length := by simp [wordVals]
theorem words_own {w : World} {B : Nat} {A : Option Addr} {c : Nat} {l : List Nat} (h : w.ownsRow B 22 1 (.slice A l.length c) l.length (wordVals l)) (hs : ∀ x ∈ l, x < 65536) : Words w A l := by
  have h' := h
  rcases h.2 with ⟨hv, hx⟩ | ⟨g, cap, cur, hv, hB, hg, _⟩
  · exact .inl hx
  · cases hv
    refine .inr ⟨g, 0, rfl, ?_, fun j hj => ?_⟩
    · rcases Nat.lt_or_ge g w.heap.size with h1 | h1
      · exact h1
      · rw [Array.getElem?_eq_none h1] at hg; cases hg
    · have e : l.getD j 0 = l[j] := by simp [List.getD_eq_getElem?_getD, hj]
      refine ⟨?_, by rw [e]; exact hs _ (List.getElem_mem _)⟩
      have := h'.cells (g := g) rfl j (.int .u16 (l.getD j 0 : Nat)) (by simp [wordVals, List.getD_eq_getElem?_getD, hj])
      rw [WideShapes.add_plain, Nat.zero_add] at this
      simpa using this
theorem wordsLen : Tryz.prog.arrayLen 109 = 65535 := by kernel_rfl
theorem wordsElem : Tryz.prog.underlying 109 = some (.array (Tryz.prog.arrayLen 109) (Tryz.prog.elem 109)) := by kernel_rfl
theorem wordsSize (w : World) : (sizeOf (Tryz.prog.elem 109)).run Tryz.prog w = .ok 1 w := by kernel_rfl
/-- .. seen though some old blocks are emptied. -/
theorem words_own_mask {w : World} {B : Nat} {A : Option Addr} {c : Nat} {l : List Nat} (h : w.ownsRow B 22 1 (.slice A l.length c) l.length (wordVals l)) (hs : ∀ x ∈ l, x < 65536) (bs : List Nat) (hb : ∀ b ∈ bs, b < B) : Words (mask bs w) A l := by
  have hW := words_own h hs
  rcases h.2 with ⟨hv, hx⟩ | ⟨g, cap, cur, hv, hB, hg, _⟩
  · exact .inl hx
  · cases hv
    have hg2 : g ∉ bs := fun hm => by have := hb g hm; omega
    have hc : ∀ o, (mask bs w).cell? ⟨g, o, none⟩ = w.cell? ⟨g, o, none⟩ := fun o => by unfold World.cell?; simp only; rw [mask_at bs w hg2]
    rcases hW with h0 | ⟨b, off, e, hlt, hh⟩
    · exact .inl h0
    · cases e
      exact .inr ⟨g, 0, rfl, by rw [mask_size]; exact hlt, fun j hj => ⟨(hc _).trans (hh j hj).1, (hh j hj).2⟩⟩
/-- A cut of a memory's words. -/
theorem cut_words (b : Nat) (at_ : Int) (k : Nat) (h1 : 1 ≤ at_) (h2 : at_ + k ≤ 65536) : ∃ α c, (k = 0 ∨ α = (⟨b, at_.toNat - 1, none⟩ : Addr)) ∧ ∀ w, (Instr.sliceAt 109 (.pointer (some ⟨b, 0, none⟩)) (some (.int .i64 (at_ - 1))) (some (.int .i64 (at_ - 1 + k))) none).run Tryz.prog w = .ok (.slice (some α) k c) w := by
  refine ⟨if 65535 = at_.toNat - 1 then ⟨b, 0, none⟩ else ⟨b, at_.toNat - 1, none⟩, 65535 - (at_.toNat - 1), ?_, fun w => ?_⟩
  · split
    · left; omega
    · right; rfl
  · rw [run_sliceAt_array_lh w 109 ⟨b, 0, none⟩ wordsElem .i64 .i64 (at_ - 1) (at_ - 1 + k) (by omega) (by omega) (by rw [wordsLen]; omega), wordsSize]
    simp only [Result.andThen_ok, slicedAt, wordsLen]
    have e1 : (at_ - 1).toNat = at_.toNat - 1 := by omega
    have e2 : (at_ - 1 + k).toNat = at_.toNat - 1 + k := by omega
    rw [e1, e2, WideShapes.add_plain, Nat.zero_add, Nat.mul_one, show at_.toNat - 1 + k - (at_.toNat - 1) = k by omega]
/-- The words of a row. -/
def rowM (ws : Nat → Nat) (at_ : Int) (n : Nat) : List Nat := (List.range n).map fun i => ws (at_.toNat - 1 + i)
theorem rowM_length (ws : Nat → Nat) (at_ : Int) (n : Nat) : (rowM ws at_ n).length = n := by simp [rowM]
theorem rowM_get (ws : Nat → Nat) (at_ : Int) (n i : Nat) (h : i < n) : (rowM ws at_ n).getD i 0 = ws (at_.toNat - 1 + i) := by simp [rowM, List.getD_eq_getElem?_getD, h]
def RowEnd (l : List Nat) (w : World) (e : Ending) (w' : World) : Prop := ∃ A c, e = .returned (.tuple #[.slice A l.length c, .bool true]) ∧ (∀ bs : List Nat, (∀ b ∈ bs, b < w.heap.size) → Words (mask bs w') A l) ∧ Below w.heap.size w w'
theorem row_any (b n : Nat) (ws : Nat → Nat) (at_ : Int) (k : Nat) (h1 : 1 ≤ at_) (h2 : at_ + k ≤ n + 1) (W : World) (hM : MemAt b n ws W) : Calls Tryz.prog 177 #[.pointer (some ⟨b, 0, none⟩), .int .i64 at_, .int .i64 k] W (RowEnd (rowM ws at_ k) W) := by
  have HM0 := Lib.hid hM
  have hbl := hM.lt
  have hn := hM.n_le
  clear hM
  have HB := Lib.hid (alloc_below W (.cells #[.int .i64 at_] 3))
  have HM := Lib.hid (HM0.out.grow HB.out)
  have HI := Lib.hid (ints_new1 W at_)
  have hT : thereM n k [at_] = true := by
    unfold thereM
    simp only [List.all_cons, List.all_nil, Bool.and_true, Bool.and_eq_true, hasB_iff, decide_eq_true_eq]
    omega
  have HT := Lib.hid hT
  obtain ⟨α, ca, hα, hcut⟩ := cut_words b at_ k h1 (by omega)
  clear hT
  have hkI : (0 : Int) ≤ k := by omega
  have h3 : at_ ≤ 65536 := by omega
  have h4 : (k : Int) ≤ 65535 := by omega
  have h5 : at_ + k ≤ 65536 := by omega
  go_enter Tryz.func177, Tryz.ntmps177
  go_wp2_with fail
  refine (there_eq (r := true) (l := [at_]) (by simp) HM.out HI.out HT.out).mono ?_
  rintro e w' ⟨rfl, hb⟩
  have HB2 := Lib.hid (HB.out.trans (hb.mono HB.out.size))
  have HM2 := Lib.hid (HM.out.grow hb)
  clear hb
  have HSrc := Lib.hid (show Src Tryz.prog 1 71 (.slice (some α) k ca) k (wordVals (rowM ws at_ k)) w' from Src.ofSlice _ Tryz.underlying71 α k ca _ (by rw [wordVals_length, rowM_length, Nat.mul_one]) (fun j u hu => by
    have hj : j < k := by
      rcases Nat.lt_or_ge j k with h' | h'
      · exact h'
      · rw [List.getElem?_eq_none (by rw [wordVals_length, rowM_length]; exact h')] at hu; cases hu
    rcases hα with h0 | rfl
    · omega
    · rw [WideShapes.add_plain, HM2.out.word _ (by omega)]
      simpa [wordVals, rowM, hj] using hu) (by intro u hu; simp [wordVals] at hu; obtain ⟨x, _, rfl⟩ := hu; rfl))
  clear hα
  go_wp2_with (at_builtin; refine wpList_app etU16 rfl _ _ rfl w'.heap.size (.slice none 0 0) 0 [] rfl (World.ownsRow_nil _ _ _ _) _ k (wordVals (rowM ws at_ k)) rfl HSrc.out (by omega) (by unfold maxLen; omega) (Nat.le_refl _) ?_; intro v9 w9 hA9)
  obtain ⟨A9, c9, hv9⟩ := own_slice' hA9.own
  subst hv9
  have HO := Lib.hid hA9.own
  have HG := Lib.hid (hA9.below HB2.out (Nat.le_trans HB2.out.size (Nat.le_refl _)) (World.ownsRow_nil w' w'.heap.size 22 1) (HB2.out.size))
  clear hA9
  simp only [Nat.zero_add, List.nil_append] at HO ⊢
  go_wp2_with fail
  refine bodyPost_ret (v := .tuple #[.slice A9 k c9, .bool true]) (by simp [results, Tryz.results177, go_sem]) rfl ⟨A9, c9, by rw [rowM_length], ?_, HG.out⟩
  have h := HO.out
  intro bs hbs
  exact words_own_mask (B := w'.heap.size) (c := c9) (by rw [rowM_length]; exact h) (fun x hx => by
    simp [rowM] at hx
    obtain ⟨i, _, rfl⟩ := hx
    exact HM2.out.small _) bs (fun b hb => Nat.lt_of_lt_of_le (hbs b hb) HB2.out.size)

/-- What a clearing leaves. -/
def zeroM (ws : Nat → Nat) (o k : Nat) : Nat → Nat := fun j => if o ≤ j ∧ j < o + k then 0 else ws j
theorem MemAt.zeros {b n : Nat} : ∀ (k o : Nat) {ws : Nat → Nat} {W : World}, MemAt b n ws W → o + k ≤ 65535 → MemAt b n (zeroM ws o k) (W.setCells b o (List.replicate k (.int .u16 0)))
  | 0, o, ws, W, h, _ => by
    have e : zeroM ws o 0 = ws := by funext j; unfold zeroM; rw [if_neg (by omega)]
    rw [e]; exact h
  | k + 1, o, ws, W, h, hk => by
    have h1 := MemAt.zeros k (o + 1) (h.set (i := o) (x := 0) (by omega) (by omega)) (by omega)
    have e : zeroM (upd ws o 0) (o + 1) k = zeroM ws o (k + 1) := by
      funext j; unfold zeroM upd
      by_cases h1 : o + 1 ≤ j ∧ j < o + 1 + k
      · rw [if_pos h1, if_pos (by omega)]
      · rw [if_neg h1]
        by_cases h2 : j = o
        · rw [if_pos h2, if_pos (by omega)]
        · rw [if_neg h2, if_neg (by omega)]
    rw [e] at h1
    exact h1
theorem Only.setCells {bs : List Nat} {b : Nat} (hb : b ∈ bs) : ∀ (vs : List Value) (o : Nat) {W W' : World}, Only bs W W' → Only bs W (W'.setCells b o vs)
  | [], _, _, _, h => h
  | v :: vs, o, _, _, h => Only.setCells hb vs (o + 1) (Only.setCell (a := ⟨b, o, none⟩) h hb v)
def clearM (n : Nat) (ws : Nat → Nat) (at_ : Int) (k : Nat) : Nat → Nat := if thereM n k [at_] then zeroM ws (at_.toNat - 1) k else ws
theorem u16_zero (w : World) : (zeroValue 22).run Tryz.prog w = .ok (.int .u16 0) w := by kernel_rfl
theorem clear_any (bs : List Nat) (b n : Nat) (hbs : b ∈ bs) (ws : Nat → Nat) (at_ : Int) (k : Nat) (hk : k ≤ 65535) (W : World) (hM : MemAt b n ws W) : Calls Tryz.prog 113 #[.pointer (some ⟨b, 0, none⟩), .int .i64 at_, .int .i64 k] W (StoreEnd bs b n (clearM n ws at_ k) (thereM n k [at_]) W) := by
  have HM0 := Lib.hid hM
  have hbl := hM.lt
  have hn := hM.n_le
  clear hM
  have HB := Lib.hid (alloc_below W (.cells #[.int .i64 at_] 3))
  have HM := Lib.hid (HM0.out.grow HB.out)
  have HI := Lib.hid (ints_new1 W at_)
  cases hi : thereM n k [at_]
  case false =>
    have HX := Lib.hid (show clearM n ws at_ k = ws by unfold clearM; rw [hi]; rfl)
    have HT := Lib.hid hi
    clear hi
    go_enter Tryz.func113, Tryz.ntmps113
    go_wp2_with fail
    refine (there_eq (r := false) (l := [at_]) (by simp) HM.out HI.out HT.out).mono ?_
    rintro e w' ⟨rfl, hb⟩
    have HB2 := Lib.hid (HB.out.trans (hb.mono HB.out.size))
    have HM2 := Lib.hid (HM.out.grow hb)
    clear hb
    go_wp2_with fail
    go_ret
    rw [HX.out]
    exact ⟨rfl, HM2.out, Only.of_below HB2.out, fun k hk _ => HB2.out.block k hk⟩
  case true =>
    have HX := Lib.hid (show clearM n ws at_ k = zeroM ws (at_.toNat - 1) k by unfold clearM; rw [hi]; rfl)
    have HT := Lib.hid hi
    have h123 : 1 ≤ at_ ∧ at_ + k ≤ n + 1 := by
      unfold thereM at hi
      simp only [List.all_cons, List.all_nil, Bool.and_true, Bool.and_eq_true, hasB_iff, decide_eq_true_eq] at hi
      omega
    obtain ⟨h1, h2⟩ := h123
    clear hi
    have h5 : at_ + k ≤ 65536 := by omega
    have h3 : at_ ≤ 65536 := by omega
    have h4 : (k : Int) ≤ 65535 := by omega
    have hkI : (0 : Int) ≤ k := by omega
    obtain ⟨α, ca, hα, hcut⟩ := cut_words b at_ k h1 (by omega)
    go_enter Tryz.func113, Tryz.ntmps113
    go_wp2_with fail
    refine (there_eq (r := true) (l := [at_]) (by simp) HM.out HI.out HT.out).mono ?_
    rintro e w' ⟨rfl, hb⟩
    have HB2 := Lib.hid (HB.out.trans (hb.mono HB.out.size))
    have HM2 := Lib.hid (HM.out.grow hb)
    clear hb
    have hcl : ∀ ty, (Builtin.clear_ #[71] ty #[.slice (some α) k ca]).run Tryz.prog w' = .ok (.tuple #[]) (w'.setCells b (at_.toNat - 1) (List.replicate k (.int .u16 0))) := fun ty => by
      rcases Nat.eq_zero_or_pos k with h0 | h0
      · subst h0
        simp [Builtin.clear_, run_underlying Tryz.underlying71]
        rfl
      · rcases hα with h' | rfl
        · omega
        · exact Lib.run_clear_slice w' 71 22 ty (.int .u16 0) Tryz.underlying71 u16_zero rfl rfl b _ k ca h0 (fun j hj => by rw [HM2.out.word _ (by omega)]; rfl) (fun j hj => HM2.out.frozen _)
    have HMz := Lib.hid (HM2.out.zeros k (at_.toNat - 1) (by omega))
    have HOz := Lib.hid (Only.setCells (bs := bs) hbs (List.replicate k (.int .u16 0)) (at_.toNat - 1) (Only.of_below HB2.out))
    have HFz := Lib.hid (fun j (hj : j < W.heap.size) (hne : j ≠ b) => ((setCells_kept b (List.replicate k (.int .u16 0)) (at_.toNat - 1) w').2.2.2.2 j hne).trans (HB2.out.block j hj))
    clear hα
    generalize hz : w'.setCells b (at_.toNat - 1) (List.replicate k (.int .u16 0)) = wz at *
    clear hz
    go_wp2_with (simp only)
    go_ret
    rw [HX.out]
    exact ⟨rfl, HMz.out, HOz.out, HFz.out⟩
end Go.Proofs.YtpfcojnkflcnoaaGreatDoor
/- Sums of numbers that are not below 0, as floating-point words: there always is one. No condition beyond what each theorem says. -/
namespace Go.Proofs.YtpfcojnkflcnoaaGreatDoor
open Go.RowKit

/-- The word of infinity: no number's that is not below 0 is greater. -/
def fTop : Nat := Ieee.Format.infRung Ieee.double
/-- A datum that is not below 0. -/
def PosD : Ieee.Datum → Prop
  | .number s _ _ => s = false
  | .infinity s => s = false
  | .nan .. => False
theorem read_pos (x : Nat) (h : x ≤ fTop) : PosD (Ieee.Format.read Ieee.double x) := by
  have h1 : x / Ieee.Format.signWeight Ieee.double = 0 := Nat.div_eq_of_lt (Nat.lt_of_le_of_lt h (by decide))
  have h2 : x % Ieee.Format.signWeight Ieee.double = x := Nat.mod_eq_of_lt (Nat.lt_of_le_of_lt h (by decide))
  unfold Ieee.Format.read
  simp only [h1, h2]
  split
  · rfl
  · split
    · rfl
    · split
      · rfl
      · rename_i a b c
        unfold fTop at h
        omega
theorem write_pos (d : Ieee.Datum) (h : PosD d) : Ieee.Format.write Ieee.double d ≤ fTop := by
  cases d with
  | number s m p =>
    have hs : s = false := h
    subst hs
    show Ieee.Format.nearest Ieee.double false m p ≤ fTop
    unfold Ieee.Format.nearest Ieee.Format.word fTop
    by_cases hm : m = 0
    · rw [if_pos hm]; simp
    · rw [if_neg hm]
      simp only [Bool.false_eq_true, if_false]
      exact Nat.min_le_right _ _
  | infinity s =>
    have hs : s = false := h
    subst hs
    exact Nat.le_refl _
  | nan s t => cases h
theorem sum_pos (d e : Ieee.Datum) (hd : PosD d) (he : PosD e) : ∃ g, Ieee.Datum.sum d e = some g ∧ PosD g := by
  cases d with
  | nan s t => cases hd
  | infinity s =>
    have hs : s = false := hd
    subst hs
    cases e with
    | nan s t => cases he
    | infinity t =>
      have ht : t = false := he
      subst ht
      exact ⟨_, rfl, rfl⟩
    | number t n j => exact ⟨_, rfl, rfl⟩
  | number s m i =>
    have hs : s = false := hd
    subst hs
    cases e with
    | nan s t => cases he
    | infinity t =>
      have ht : t = false := he
      subst ht
      exact ⟨_, rfl, rfl⟩
    | number t n j =>
      have ht : t = false := he
      subst ht
      refine ⟨_, rfl, ?_⟩
      unfold PosD
      simp only [Ieee.signed, Bool.false_eq_true, if_false]
      split
      · rfl
      · rw [decide_eq_false_iff_not]
        exact Int.not_lt.2 (Int.add_nonneg (Int.natCast_nonneg _) (Int.natCast_nonneg _))
theorem add_pos (x y : Nat) (hx : x ≤ fTop) (hy : y ≤ fTop) : ∃ z, floatBits .add .f64 x y = some z ∧ z ≤ fTop := by
  obtain ⟨g, h1, h2⟩ := sum_pos _ _ (read_pos x hx) (read_pos y hy)
  refine ⟨Ieee.Format.write Ieee.double g, ?_, write_pos g h2⟩
  show Ieee.Format.add Ieee.double x y = _
  unfold Ieee.Format.add
  rw [h1]; rfl
theorem ofInt_pos (n : Nat) : floatOfInt .f64 (n : Int) ≤ fTop := by
  show Ieee.Format.write Ieee.double (.number (decide ((n : Int) < 0)) (n : Int).natAbs 0) ≤ fTop
  exact write_pos _ (decide_eq_false (by omega))
/-- A complex number's sum with another, where no part is below 0. -/
theorem csum_pos (a b c d : Nat) (ha : a ≤ fTop) (hb : b ≤ fTop) (hc : c ≤ fTop) (hd : d ≤ fTop) : ∃ re im, (re ≤ fTop ∧ im ≤ fTop) ∧ ∀ (P : Program) (w : World) (t : TypeId), (binOp .add t (.complex .f64 a b) (.complex .f64 c d)).run P w = .ok (.complex .f64 re im) w := by
  obtain ⟨re, h1, h2⟩ := add_pos a c ha hc
  obtain ⟨im, h3, h4⟩ := add_pos b d hb hd
  exact ⟨re, im, ⟨h2, h4⟩, fun P w t => run_complex_sum w .add (.inl rfl) t .f64 a b c d re im (by unfold cSumBits; rw [h1, h3]; rfl)⟩
end Go.Proofs.YtpfcojnkflcnoaaGreatDoor
/- A machine in memory: what is fixed, what turns, how it lies; what each store leaves. No condition beyond what each theorem says. (Printed by gen_ms.py.) -/
namespace Go.Proofs.YtpfcojnkflcnoaaGreatDoor
open Go.RowKit
set_option maxRecDepth 100000

/-- What is fixed of a machine: the blocks that turn, its own, how many words it has, its program, where that lies, where its modules' data and numbers begin, its stack, how much it may write. -/
structure MK where
  bs : List Nat
  b : Nat
  bt : Nat
  bm : Nat
  bh : Nat
  n : Nat
  mods : List ModL
  order : List Int
  pA : Option Addr
  pc : Nat
  oA : Option Addr
  oc : Nat
  dA : Option Addr
  dc : Nat
  fA : Option Addr
  fc : Nat
  data : List Int
  first : List Int
  low : Int
  high : Int
  most : Int
/-- What turns. -/
structure St where
  ord : Int
  mod : Int
  proc : Int
  at_ : Int
  fp : Int
  sp : Int
  next : Int
  depth : Int
  kind : Nat
  trap : Nat
  steps : Int
  args : List Int
  ws : Nat → Nat
  inp : List UInt8
  out : List UInt8
def mcells (K : MK) (S : St) (A : Option Addr) (c : Nat) : Array Value := #[.pointer (some ⟨K.bt, 0, none⟩), .slice K.pA K.mods.length K.pc, .slice K.oA K.order.length K.oc, .pointer (some ⟨K.bm, 0, none⟩), .pointer (some ⟨K.bh, 0, none⟩), .slice K.dA K.data.length K.dc, .slice K.fA K.first.length K.fc, .int .i64 K.low, .int .i64 K.high, .int .i64 S.ord, .int .i64 S.mod, .int .i64 S.proc, .int .i64 S.at_, .int .i64 S.fp, .int .i64 S.sp, .int .i64 S.next, .slice A S.args.length c, .int .i64 S.depth, .int .u8 S.kind, .int .u8 S.trap, .int .i64 S.steps]
def tcells (K : MK) (S : St) (re im : Nat) : Array Value := #[.string ⟨S.inp.toArray⟩, .string ⟨S.out.toArray⟩, .int .i64 K.most, .complex .f64 re im, .bool true]
/-- What is fixed, and may be. -/
structure KOk (K : MK) : Prop where
  hb : K.b ∈ K.bs
  ht : K.bt ∈ K.bs
  hm : K.bm ∈ K.bs
  bt : K.b ≠ K.bt
  bm : K.b ≠ K.bm
  tm : K.bt ≠ K.bm
  mods_le : K.mods.length ≤ 64
  may : checkB K.mods K.order = true
  n_le : K.n ≤ 65535
  low1 : 1 ≤ K.low
  lowh : K.low ≤ K.high
  high : K.high ≤ K.n + 1
structure At (K : MK) (S : St) (W : World) : Prop where
  box : ∃ A c, Bx K.b (mcells K S A c) 79 W ∧ Ints (mask K.bs W) A S.args
  term : ∃ re im, (re ≤ fTop ∧ im ≤ fTop) ∧ Bx K.bt (tcells K S re im) 108 W
  mem : MemAt K.bm K.n S.ws W
  mods : Mods (mask K.bs W) K.pA K.mods
  order : Ints (mask K.bs W) K.oA K.order
  data : Ints (mask K.bs W) K.dA K.data
  first : Ints (mask K.bs W) K.fA K.first
  old : ∀ b ∈ K.bs, b < W.heap.size
theorem At.only {K : MK} {S S' : St} {W W' : World} (h : At K S W) (ho : Only K.bs W W') (hbox : ∃ A c, Bx K.b (mcells K S' A c) 79 W' ∧ Ints (mask K.bs W') A S'.args) (hterm : ∃ re im, (re ≤ fTop ∧ im ≤ fTop) ∧ Bx K.bt (tcells K S' re im) 108 W') (hmem : MemAt K.bm K.n S'.ws W') : At K S' W' :=
  ⟨hbox, hterm, hmem, h.mods.later ho (by rw [mask_size]; exact Nat.le_refl _), h.order.later ho (by rw [mask_size]; exact Nat.le_refl _), h.data.later ho (by rw [mask_size]; exact Nat.le_refl _), h.first.later ho (by rw [mask_size]; exact Nat.le_refl _), fun b hb => Nat.lt_of_lt_of_le (h.old b hb) ho.size⟩
theorem At.grow {K : MK} {S : St} {W W' : World} (h : At K S W) (hb : Below W.heap.size W W') : At K S W' := by
  have ho : Only K.bs W W' := Only.of_below hb
  obtain ⟨A, c, h1, h2⟩ := h.box
  obtain ⟨re, im, hre, h3⟩ := h.term
  exact h.only ho ⟨A, c, h1.grow hb, h2.later ho (by rw [mask_size]; exact Nat.le_refl _)⟩ ⟨re, im, hre, h3.grow hb⟩ (h.mem.grow hb)
theorem At.lt {K : MK} {S : St} {W : World} (h : At K S W) : K.b < W.heap.size := by
  obtain ⟨A, c, h1, _⟩ := h.box
  exact h1.lt
theorem At.fz {K : MK} {S : St} {W : World} (h : At K S W) (i : Nat) : W.frozen? ⟨K.b, i, none⟩ = false := by
  obtain ⟨A, c, h1, _⟩ := h.box
  exact h1.frozen i
theorem At.setBox {K : MK} {S S' : St} {W : World} (h : At K S W) (k : KOk K) (i : Nat) (v : Value) (ha : S'.args = S.args) (hi : S'.inp = S.inp) (hu : S'.out = S.out) (hw : S'.ws = S.ws) (he : ∀ A c, (mcells K S A c).setIfInBounds i v = mcells K S' A c) : At K S' (W.setCell ⟨K.b, i, none⟩ v) := by
  have ho : Only K.bs W (W.setCell ⟨K.b, i, none⟩ v) := (Only.refl _ _).setCell k.hb v
  obtain ⟨A, c, h1, h2⟩ := h.box
  obtain ⟨re, im, hre, h3⟩ := h.term
  refine h.only ho ⟨A, c, ?_, ?_⟩ ⟨re, im, hre, ?_⟩ ?_
  · have := h1.set i v
    rw [he] at this
    exact this
  · rw [ha]; exact h2.later ho (by rw [mask_size]; exact Nat.le_refl _)
  · have := h3.far (a := ⟨K.b, i, none⟩) k.bt.symm v
    unfold tcells at this ⊢
    rw [hi, hu]; exact this
  · rw [hw]; exact h.mem.later (Below.heap_setCell _ _ _ _ k.bm.symm)
theorem At.setMem {K : MK} {S : St} {W W' : World} {ws : Nat → Nat} (h : At K S W) (k : KOk K) (hm : MemAt K.bm K.n ws W') (ho : Only K.bs W W') (hf : ∀ j, j < W.heap.size → j ≠ K.bm → W'.heap[j]? = W.heap[j]?) : At K { S with ws := ws } W' := by
  obtain ⟨A, c, h1, h2⟩ := h.box
  obtain ⟨re, im, hre, h3⟩ := h.term
  exact h.only ho ⟨A, c, (hf _ h1.lt k.bm).trans h1, h2.later ho (by rw [mask_size]; exact Nat.le_refl _)⟩ ⟨re, im, hre, (hf _ h3.lt k.tm).trans h3⟩ hm
theorem At.set_ord {K : MK} {S : St} {W : World} (h : At K S W) (k : KOk K) (x : Int) : At K { S with ord := x } (W.setCell ⟨K.b, 9, none⟩ (.int .i64 x)) := h.setBox k 9 _ rfl rfl rfl rfl (fun _ _ => rfl)
theorem At.set_mod {K : MK} {S : St} {W : World} (h : At K S W) (k : KOk K) (x : Int) : At K { S with mod := x } (W.setCell ⟨K.b, 10, none⟩ (.int .i64 x)) := h.setBox k 10 _ rfl rfl rfl rfl (fun _ _ => rfl)
theorem At.set_proc {K : MK} {S : St} {W : World} (h : At K S W) (k : KOk K) (x : Int) : At K { S with proc := x } (W.setCell ⟨K.b, 11, none⟩ (.int .i64 x)) := h.setBox k 11 _ rfl rfl rfl rfl (fun _ _ => rfl)
theorem At.set_at_ {K : MK} {S : St} {W : World} (h : At K S W) (k : KOk K) (x : Int) : At K { S with at_ := x } (W.setCell ⟨K.b, 12, none⟩ (.int .i64 x)) := h.setBox k 12 _ rfl rfl rfl rfl (fun _ _ => rfl)
theorem At.set_fp {K : MK} {S : St} {W : World} (h : At K S W) (k : KOk K) (x : Int) : At K { S with fp := x } (W.setCell ⟨K.b, 13, none⟩ (.int .i64 x)) := h.setBox k 13 _ rfl rfl rfl rfl (fun _ _ => rfl)
theorem At.set_sp {K : MK} {S : St} {W : World} (h : At K S W) (k : KOk K) (x : Int) : At K { S with sp := x } (W.setCell ⟨K.b, 14, none⟩ (.int .i64 x)) := h.setBox k 14 _ rfl rfl rfl rfl (fun _ _ => rfl)
theorem At.set_next {K : MK} {S : St} {W : World} (h : At K S W) (k : KOk K) (x : Int) : At K { S with next := x } (W.setCell ⟨K.b, 15, none⟩ (.int .i64 x)) := h.setBox k 15 _ rfl rfl rfl rfl (fun _ _ => rfl)
theorem At.set_depth {K : MK} {S : St} {W : World} (h : At K S W) (k : KOk K) (x : Int) : At K { S with depth := x } (W.setCell ⟨K.b, 17, none⟩ (.int .i64 x)) := h.setBox k 17 _ rfl rfl rfl rfl (fun _ _ => rfl)
theorem At.set_kind {K : MK} {S : St} {W : World} (h : At K S W) (k : KOk K) (x : Nat) : At K { S with kind := x } (W.setCell ⟨K.b, 18, none⟩ (.int .u8 x)) := h.setBox k 18 _ rfl rfl rfl rfl (fun _ _ => rfl)
theorem At.set_trap {K : MK} {S : St} {W : World} (h : At K S W) (k : KOk K) (x : Nat) : At K { S with trap := x } (W.setCell ⟨K.b, 19, none⟩ (.int .u8 x)) := h.setBox k 19 _ rfl rfl rfl rfl (fun _ _ => rfl)
theorem At.set_steps {K : MK} {S : St} {W : World} (h : At K S W) (k : KOk K) (x : Int) : At K { S with steps := x } (W.setCell ⟨K.b, 20, none⟩ (.int .i64 x)) := h.setBox k 20 _ rfl rfl rfl rfl (fun _ _ => rfl)
theorem At.c0 {K : MK} {S : St} {W : World} (h : At K S W) : W.cell? ⟨K.b, 0, none⟩ = some (.pointer (some ⟨K.bt, 0, none⟩)) := by
  obtain ⟨A, c, h1, _⟩ := h.box
  exact (h1.cell 0).trans rfl
theorem At.c1 {K : MK} {S : St} {W : World} (h : At K S W) : W.cell? ⟨K.b, 1, none⟩ = some (.slice K.pA K.mods.length K.pc) := by
  obtain ⟨A, c, h1, _⟩ := h.box
  exact (h1.cell 1).trans rfl
theorem At.c2 {K : MK} {S : St} {W : World} (h : At K S W) : W.cell? ⟨K.b, 2, none⟩ = some (.slice K.oA K.order.length K.oc) := by
  obtain ⟨A, c, h1, _⟩ := h.box
  exact (h1.cell 2).trans rfl
theorem At.c3 {K : MK} {S : St} {W : World} (h : At K S W) : W.cell? ⟨K.b, 3, none⟩ = some (.pointer (some ⟨K.bm, 0, none⟩)) := by
  obtain ⟨A, c, h1, _⟩ := h.box
  exact (h1.cell 3).trans rfl
theorem At.c4 {K : MK} {S : St} {W : World} (h : At K S W) : W.cell? ⟨K.b, 4, none⟩ = some (.pointer (some ⟨K.bh, 0, none⟩)) := by
  obtain ⟨A, c, h1, _⟩ := h.box
  exact (h1.cell 4).trans rfl
theorem At.c5 {K : MK} {S : St} {W : World} (h : At K S W) : W.cell? ⟨K.b, 5, none⟩ = some (.slice K.dA K.data.length K.dc) := by
  obtain ⟨A, c, h1, _⟩ := h.box
  exact (h1.cell 5).trans rfl
theorem At.c6 {K : MK} {S : St} {W : World} (h : At K S W) : W.cell? ⟨K.b, 6, none⟩ = some (.slice K.fA K.first.length K.fc) := by
  obtain ⟨A, c, h1, _⟩ := h.box
  exact (h1.cell 6).trans rfl
theorem At.c7 {K : MK} {S : St} {W : World} (h : At K S W) : W.cell? ⟨K.b, 7, none⟩ = some (.int .i64 K.low) := by
  obtain ⟨A, c, h1, _⟩ := h.box
  exact (h1.cell 7).trans rfl
theorem At.c8 {K : MK} {S : St} {W : World} (h : At K S W) : W.cell? ⟨K.b, 8, none⟩ = some (.int .i64 K.high) := by
  obtain ⟨A, c, h1, _⟩ := h.box
  exact (h1.cell 8).trans rfl
theorem At.c9 {K : MK} {S : St} {W : World} (h : At K S W) : W.cell? ⟨K.b, 9, none⟩ = some (.int .i64 S.ord) := by
  obtain ⟨A, c, h1, _⟩ := h.box
  exact (h1.cell 9).trans rfl
theorem At.c10 {K : MK} {S : St} {W : World} (h : At K S W) : W.cell? ⟨K.b, 10, none⟩ = some (.int .i64 S.mod) := by
  obtain ⟨A, c, h1, _⟩ := h.box
  exact (h1.cell 10).trans rfl
theorem At.c11 {K : MK} {S : St} {W : World} (h : At K S W) : W.cell? ⟨K.b, 11, none⟩ = some (.int .i64 S.proc) := by
  obtain ⟨A, c, h1, _⟩ := h.box
  exact (h1.cell 11).trans rfl
theorem At.c12 {K : MK} {S : St} {W : World} (h : At K S W) : W.cell? ⟨K.b, 12, none⟩ = some (.int .i64 S.at_) := by
  obtain ⟨A, c, h1, _⟩ := h.box
  exact (h1.cell 12).trans rfl
theorem At.c13 {K : MK} {S : St} {W : World} (h : At K S W) : W.cell? ⟨K.b, 13, none⟩ = some (.int .i64 S.fp) := by
  obtain ⟨A, c, h1, _⟩ := h.box
  exact (h1.cell 13).trans rfl
theorem At.c14 {K : MK} {S : St} {W : World} (h : At K S W) : W.cell? ⟨K.b, 14, none⟩ = some (.int .i64 S.sp) := by
  obtain ⟨A, c, h1, _⟩ := h.box
  exact (h1.cell 14).trans rfl
theorem At.c15 {K : MK} {S : St} {W : World} (h : At K S W) : W.cell? ⟨K.b, 15, none⟩ = some (.int .i64 S.next) := by
  obtain ⟨A, c, h1, _⟩ := h.box
  exact (h1.cell 15).trans rfl
theorem At.c17 {K : MK} {S : St} {W : World} (h : At K S W) : W.cell? ⟨K.b, 17, none⟩ = some (.int .i64 S.depth) := by
  obtain ⟨A, c, h1, _⟩ := h.box
  exact (h1.cell 17).trans rfl
theorem At.c18 {K : MK} {S : St} {W : World} (h : At K S W) : W.cell? ⟨K.b, 18, none⟩ = some (.int .u8 S.kind) := by
  obtain ⟨A, c, h1, _⟩ := h.box
  exact (h1.cell 18).trans rfl
theorem At.c19 {K : MK} {S : St} {W : World} (h : At K S W) : W.cell? ⟨K.b, 19, none⟩ = some (.int .u8 S.trap) := by
  obtain ⟨A, c, h1, _⟩ := h.box
  exact (h1.cell 19).trans rfl
theorem At.c20 {K : MK} {S : St} {W : World} (h : At K S W) : W.cell? ⟨K.b, 20, none⟩ = some (.int .i64 S.steps) := by
  obtain ⟨A, c, h1, _⟩ := h.box
  exact (h1.cell 20).trans rfl
theorem At.set_args {K : MK} {S : St} {W : World} (h : At K S W) (k : KOk K) (A : Option Addr) (c : Nat) (l : List Int) (hl : Ints (mask K.bs W) A l) : At K { S with args := l } (W.setCell ⟨K.b, 16, none⟩ (.slice A l.length c)) := by
  have ho : Only K.bs W (W.setCell ⟨K.b, 16, none⟩ (.slice A l.length c)) := (Only.refl _ _).setCell k.hb _
  obtain ⟨A0, c0, h1, h2⟩ := h.box
  obtain ⟨re, im, hre, h3⟩ := h.term
  exact h.only ho ⟨A, c, h1.set 16 (.slice A l.length c), hl.later ho (by rw [mask_size]; exact Nat.le_refl _)⟩ ⟨re, im, hre, h3.far (a := ⟨K.b, 16, none⟩) k.bt.symm _⟩ (h.mem.later (Below.heap_setCell _ _ _ _ k.bm.symm))
/-- The module and the procedure that run. -/
def modOf (K : MK) (S : St) : ModL := K.mods.getD S.mod.toNat default
def hereP (K : MK) (S : St) : ProcL := (modOf K S).procs.getD S.proc.toNat default
def baseN (p : ProcL) : Int := 5 + p.params + p.locals
/-- Where a machine stands may be. -/
structure ROk (K : MK) (S : St) : Prop where
  mod0 : 0 ≤ S.mod
  mod1 : S.mod < K.mods.length
  proc0 : 0 ≤ S.proc
  proc1 : S.proc < (modOf K S).procs.length
structure SOk (K : MK) (S : St) : Prop extends ROk K S where
  fp1 : K.low ≤ S.fp
  sp0 : S.fp + baseN (hereP K S) ≤ S.sp
  sp1 : S.sp ≤ S.fp + baseN (hereP K S) + (hereP K S).depth
  top : S.fp + baseN (hereP K S) + (hereP K S).depth ≤ K.high
theorem procOk {K : MK} (k : KOk K) {m : ModL} (hm : m ∈ K.mods) {p : ProcL} (hp : p ∈ m.procs) : (0 ≤ p.at_ ∧ p.at_ ≤ 65535) ∧ (0 ≤ p.params ∧ p.params ≤ 65535) ∧ (0 ≤ p.locals ∧ p.locals ≤ 65535) ∧ (0 ≤ p.depth ∧ p.depth ≤ 65535) ∧ (1 ≤ p.level ∧ p.level ≤ 16) ∧ p.at_ ≤ m.code.length := by
  have h := k.may
  unfold checkB at h
  simp only [Bool.and_eq_true] at h
  have h1 := List.all_eq_true.1 h.1.1.2 m hm
  unfold modB headB at h1
  simp only [Bool.and_eq_true, Bool.not_eq_true', decide_eq_false_iff_not] at h1
  have h2 := List.all_eq_true.1 h1.1.1.2 p hp
  have h3 := h1.1.1.1.1.1.1
  unfold mayB withinB at h2
  simp only [Bool.and_eq_true, decide_eq_true_eq] at h2
  omega
theorem getD_mem' {α : Type} (l : List α) (k : Nat) (d : α) (hk : k < l.length) : l.getD k d ∈ l := by
  simp [List.getD_eq_getElem?_getD, hk]
theorem modOf_mem {K : MK} {S : St} (s : ROk K S) : modOf K S ∈ K.mods := getD_mem' _ _ _ (by have := s.mod0; have := s.mod1; omega)
theorem hereP_mem {K : MK} {S : St} (s : ROk K S) : hereP K S ∈ (modOf K S).procs := getD_mem' _ _ _ (by have := s.proc0; have := s.proc1; omega)
theorem hereOk {K : MK} {S : St} (k : KOk K) (s : ROk K S) : (0 ≤ (hereP K S).at_ ∧ (hereP K S).at_ ≤ 65535) ∧ (0 ≤ (hereP K S).params ∧ (hereP K S).params ≤ 65535) ∧ (0 ≤ (hereP K S).locals ∧ (hereP K S).locals ≤ 65535) ∧ (0 ≤ (hereP K S).depth ∧ (hereP K S).depth ≤ 65535) ∧ (1 ≤ (hereP K S).level ∧ (hereP K S).level ≤ 16) ∧ (hereP K S).at_ ≤ (modOf K S).code.length :=
  procOk k (modOf_mem s) (hereP_mem s)
end Go.Proofs.YtpfcojnkflcnoaaGreatDoor
/- A machine's procedure that runs; where its pushed words begin. Condition: what lies in memory can lie there. -/
namespace Go.Proofs.YtpfcojnkflcnoaaGreatDoor
open Go.RowKit
set_option maxRecDepth 100000

theorem wp_region_tail {P : Program} {id : Nat} {Q : Exit → Act → World → Prop} {a : Act} {w : World} {l : List Oper} (n : Nat) (hm : P.follows .mixedOrders = true) (hB : Region.lexTailB .any l.toArray n = true)
    (h : wpStill P l.toArray w.drew (fun a' => wpList P l.toArray Q (l.drop n) a' w.drew) (l.take n) a) : (Code.region id l.toArray true).wp P Q a w := wp_region_still_tail n hm hB h
/-- The procedure that runs, its cells. -/
theorem here_cells {K : MK} {S : St} {W : World} (h : At K S W) (s : ROk K S) : ∃ b o pA pc b2 o2, K.pA = some ⟨b, o, none⟩ ∧ W.cell? ⟨b, o + S.mod.toNat * 5 + 1, none⟩ = some (.slice pA (modOf K S).procs.length pc) ∧ pA = some ⟨b2, o2, none⟩ ∧ ProcAt W b2 (o2 + S.proc.toNat * 6) (hereP K S) ∧ b < W.heap.size ∧ b2 < W.heap.size := by
  have hm := s.mod0
  have hm1 := s.mod1
  have hp := s.proc0
  have hp1 := s.proc1
  obtain ⟨b, o, e, hb, t, hI, _, h1, _⟩ := (h.mods.reads (mask_reads _ _)).at_ (j := S.mod.toNat) (by omega)
  obtain ⟨b2, o2, e2, hb2, hP⟩ := hI.procs.at_ (j := S.proc.toNat) (by unfold modOf at hp1; omega)
  exact ⟨b, o, t.A1, t.c1, b2, o2, e, h1, e2, hP, hb, hb2⟩
def ProcEnd (w : World) (p : ProcL) (e : Ending) (w' : World) : Prop := e = .returned (procV p) ∧ Below w.heap.size w w'
set_option maxHeartbeats 1000000 in
theorem here_any (K : MK) (S : St) (W : World) (h : At K S W) (s : ROk K S) : Calls Tryz.prog 112 #[.pointer (some ⟨K.b, 0, none⟩)] W (ProcEnd W (hereP K S)) := by
  have H := Lib.hid h
  have HS := Lib.hid s
  clear h s
  go_enter Tryz.func112, Tryz.ntmps112
  go_wp2_with fail
  refine wp_region_tail 18 (by kernel_rfl) (by kernel_rfl) ?_
  have HB := Lib.hid (show Below W.heap.size W (W.alloc (.cells #[.int .i64 0, .int .i64 0, .int .i64 0, .int .i64 0, .int .i64 0, .bool false] 69)).drew from below_drawn (alloc_below _ _) 1)
  have HX := Lib.hid (show Bx W.heap.size #[.int .i64 0, .int .i64 0, .int .i64 0, .int .i64 0, .int .i64 0, .bool false] 69 (W.alloc (.cells #[.int .i64 0, .int .i64 0, .int .i64 0, .int .i64 0, .int .i64 0, .bool false] 69)).drew from Bx.new W _ _)
  generalize (W.alloc (.cells #[.int .i64 0, .int .i64 0, .int .i64 0, .int .i64 0, .int .i64 0, .bool false] 69)).drew = wd at *
  have H1 := Lib.hid (H.out.grow HB.out)
  obtain ⟨b, o, pA, pc, b2, o2, hA, c1, hA2, ⟨p0, p1, p2, p3, p4, p5⟩, hb, hb2⟩ := here_cells H1.out HS.out
  have m1 := H1.out.c1
  have m10 := H1.out.c10
  have m11 := H1.out.c11
  have i0 := HS.out.mod0
  have i1 := HS.out.mod1
  have i2 := HS.out.proc0
  have i3 := HS.out.proc1
  rw [hA] at m1
  rw [hA2] at c1
  clear hA hA2
  generalize hereP K S = p at *
  generalize (modOf K S).procs.length = np at *
  simp only [List.take_succ_cons, List.take_zero, List.drop_succ_cons, List.drop_zero]
  repeat still_step
  refine wpStill_nil ?_
  have x0 : wd.cell? ⟨W.heap.size, 0, none⟩ = some (.int .i64 0) := (HX.out.cell 0).trans rfl
  have x1 : wd.cell? ⟨W.heap.size, 1, none⟩ = some (.int .i64 0) := (HX.out.cell 1).trans rfl
  have x2 : wd.cell? ⟨W.heap.size, 2, none⟩ = some (.int .i64 0) := (HX.out.cell 2).trans rfl
  have x3 : wd.cell? ⟨W.heap.size, 3, none⟩ = some (.int .i64 0) := (HX.out.cell 3).trans rfl
  have x4 : wd.cell? ⟨W.heap.size, 4, none⟩ = some (.int .i64 0) := (HX.out.cell 4).trans rfl
  have x5 : wd.cell? ⟨W.heap.size, 5, none⟩ = some (.bool false) := (HX.out.cell 5).trans rfl
  have fz := HX.out.frozen
  go_wp2_with fail
  have HX6 := Lib.hid (((((((((((((HX.out.set 0 (.int .i64 p.at_)).to (ds := #[.int .i64 p.at_, .int .i64 0, .int .i64 0, .int .i64 0, .int .i64 0, .bool false]) rfl).set 1 (.int .i64 p.params)).to (ds := #[.int .i64 p.at_, .int .i64 p.params, .int .i64 0, .int .i64 0, .int .i64 0, .bool false]) rfl).set 2 (.int .i64 p.locals)).to (ds := #[.int .i64 p.at_, .int .i64 p.params, .int .i64 p.locals, .int .i64 0, .int .i64 0, .bool false]) rfl).set 3 (.int .i64 p.depth)).to (ds := #[.int .i64 p.at_, .int .i64 p.params, .int .i64 p.locals, .int .i64 p.depth, .int .i64 0, .bool false]) rfl).set 4 (.int .i64 p.level)).to (ds := #[.int .i64 p.at_, .int .i64 p.params, .int .i64 p.locals, .int .i64 p.depth, .int .i64 p.level, .bool false]) rfl).set 5 (.bool p.fn)).to (ds := #[.int .i64 p.at_, .int .i64 p.params, .int .i64 p.locals, .int .i64 p.depth, .int .i64 p.level, .bool p.fn]) rfl))
  have HB6 := Lib.hid ((((((HB.out.setCell (p := ⟨W.heap.size, 0, none⟩) (Nat.le_refl _) (.int .i64 p.at_)).setCell (p := ⟨W.heap.size, 1, none⟩) (Nat.le_refl _) (.int .i64 p.params)).setCell (p := ⟨W.heap.size, 2, none⟩) (Nat.le_refl _) (.int .i64 p.locals)).setCell (p := ⟨W.heap.size, 3, none⟩) (Nat.le_refl _) (.int .i64 p.depth)).setCell (p := ⟨W.heap.size, 4, none⟩) (Nat.le_refl _) (.int .i64 p.level)).setCell (p := ⟨W.heap.size, 5, none⟩) (Nat.le_refl _) (.bool p.fn))
  clear x0 x1 x2 x3 x4 x5 fz p0 p1 p2 p3 p4 p5 c1 m1 m10 m11 HX
  generalize World.setCell _ _ _ = w6 at *
  have x0 : w6.cell? ⟨W.heap.size, 0, none⟩ = some (.int .i64 p.at_) := (HX6.out.cell 0).trans rfl
  have x1 : w6.cell? ⟨W.heap.size, 1, none⟩ = some (.int .i64 p.params) := (HX6.out.cell 1).trans rfl
  have x2 : w6.cell? ⟨W.heap.size, 2, none⟩ = some (.int .i64 p.locals) := (HX6.out.cell 2).trans rfl
  have x3 : w6.cell? ⟨W.heap.size, 3, none⟩ = some (.int .i64 p.depth) := (HX6.out.cell 3).trans rfl
  have x4 : w6.cell? ⟨W.heap.size, 4, none⟩ = some (.int .i64 p.level) := (HX6.out.cell 4).trans rfl
  have x5 : w6.cell? ⟨W.heap.size, 5, none⟩ = some (.bool p.fn) := (HX6.out.cell 5).trans rfl
  refine bodyPost_ret (v := procV p) ?_ rfl ⟨rfl, HB6.out⟩
  unfold procV
  simp [results, Tryz.results112, go_sem, x0, x1, x2, x3, x4, x5]
theorem base_any (p : ProcL) (h1 : 0 ≤ p.params) (h2 : p.params ≤ 65535) (h3 : 0 ≤ p.locals) (h4 : p.locals ≤ 65535) (W : World) : Calls Tryz.prog 48 #[procV p] W (fun e w' => e = .returned (.int .i64 (baseN p)) ∧ Below W.heap.size W w') := by
  unfold procV baseN
  go_enter Tryz.func48, Tryz.ntmps48
  go_wp2_with fail
  go_ret
  exact ⟨rfl, alloc_below _ _⟩

/-- The procedure that runs, written out. -/
theorem here_eq {K : MK} {S : St} {W : World} (h : At K S W) (s : ROk K S) {pa pp pl pd pv : Int} {pf : Bool} (hp : hereP K S = ⟨pa, pp, pl, pd, pv, pf⟩) :
    Calls Tryz.prog 112 #[.pointer (some ⟨K.b, 0, none⟩)] W fun e w' => e = .returned (.agg #[.int .i64 pa, .int .i64 pp, .int .i64 pl, .int .i64 pd, .int .i64 pv, .bool pf]) ∧ Below W.heap.size W w' := by
  have := here_any K S W h s
  rw [hp] at this
  exact this
theorem base_eq {pa pp pl pd pv n : Int} {pf : Bool} {W : World} (h1 : 0 ≤ pp) (h2 : pp ≤ 65535) (h3 : 0 ≤ pl) (h4 : pl ≤ 65535) (hn : 5 + pp + pl = n) :
    Calls Tryz.prog 48 #[.agg #[.int .i64 pa, .int .i64 pp, .int .i64 pl, .int .i64 pd, .int .i64 pv, .bool pf]] W fun e w' => e = .returned (.int .i64 n) ∧ Below W.heap.size W w' := by
  rw [← hn]; exact base_any ⟨pa, pp, pl, pd, pv, pf⟩ h1 h2 h3 h4 W
end Go.Proofs.YtpfcojnkflcnoaaGreatDoor
/- A machine pushes and pops words. Condition: what lies in memory can lie there. -/
namespace Go.Proofs.YtpfcojnkflcnoaaGreatDoor
open Go.RowKit
set_option maxRecDepth 100000

theorem field_depth (pa pp pl pd pv : Int) (pf : Bool) (w : World) : (Instr.field 69 (.agg #[.int .i64 pa, .int .i64 pp, .int .i64 pl, .int .i64 pd, .int .i64 pv, .bool pf]) 3).run Tryz.prog w = .ok (.int .i64 pd) w := by kernel_rfl
/-- How a function of a machine ends that answers a trap. -/
def OpEnd (K : MK) (W : World) (r : St × Nat) (e : Ending) (W' : World) : Prop := e = .returned (.int .u8 (r.2 : Nat)) ∧ At K r.1 W' ∧ Only K.bs W W'
/-- How far up the running procedure's pushed words may go. -/
def topN (K : MK) (S : St) : Int := S.fp + baseN (hereP K S) + (hereP K S).depth
def floorN (K : MK) (S : St) : Int := S.fp + baseN (hereP K S)
def pushM (K : MK) (x : Nat) (S : St) : St × Nat :=
  if topN K S ≤ S.sp then (S, 14) else ({ S with ws := storeM K.n S.ws S.sp x, sp := S.sp + 1 }, 0)
set_option maxHeartbeats 1000000 in
theorem push_any (K : MK) (k : KOk K) (S : St) (s : SOk K S) (x : Nat) (hx : x < 65536) (W : World) (h : At K S W) : Calls Tryz.prog 120 #[.pointer (some ⟨K.b, 0, none⟩), .int .u16 x] W (OpEnd K W (pushM K x S)) := by
  have H := Lib.hid h
  have HK := Lib.hid k
  have HS := Lib.hid s
  obtain ⟨⟨_, _⟩, ⟨q2, q3⟩, ⟨q4, q5⟩, ⟨q6, q7⟩, _, _⟩ := hereOk k s.toROk
  have l1 := k.low1
  have l2 := k.lowh
  have l3 := k.high
  have l4 := k.n_le
  have l5 := s.fp1
  have l6 := s.sp0
  have l7 := s.sp1
  have l8 := s.top
  have htop : topN K S = S.fp + baseN (hereP K S) + (hereP K S).depth := rfl
  generalize hp : hereP K S = p at *
  obtain ⟨pa, pp, pl, pd, pv, pf⟩ := p
  unfold baseN at l6 l7 l8 htop
  simp only at l6 l7 l8 q2 q3 q4 q5 q6 q7 htop
  have HP := Lib.hid hp
  have HTop := Lib.hid htop
  clear h k s hp htop
  have m13 := H.out.c13
  have m14 := H.out.c14
  have hlt := H.out.lt
  have HG := Lib.hid (fun x => H.out.grow (growN_below W x))
  have e1 : IntKind.i64.wrap (S.fp + (5 + pp + pl)) = S.fp + (5 + pp + pl) := IntWalk.i64_in _ (by omega)
  have e2 : IntKind.i64.wrap (S.fp + (5 + pp + pl) + pd) = S.fp + (5 + pp + pl) + pd := IntWalk.i64_in _ (by omega)
  have hfd := field_depth pa pp pl pd pv pf
  by_cases ht : S.fp + (5 + pp + pl) + pd ≤ S.sp
  · have HR := Lib.hid (show pushM K x S = (S, 14) by unfold pushM; rw [HTop.out, if_pos ht])
    go_enter Tryz.func120, Tryz.ntmps120
    go_wp2_with fail
    refine wp_region_grow (by kernel_rfl) (by kernel_rfl) ?_
    repeat (first | go_big_quiet_step (first
      | (go_at_call 112; refine quiet_grow (here_eq (HG.out _) HS.out.toROk HP.out))
      | (go_at_call 48; refine quiet_grow (base_eq (by omega) (by omega) (by omega) (by omega) rfl))))
    refine wpQuiet_nil ?_
    rintro _ ⟨gx, rfl⟩
    go_wp2_with fail
    go_ret
    rw [HR.out]
    exact ⟨rfl, HG.out gx, Only.of_below (growN_below W gx)⟩
  · have hnt : S.sp < S.fp + (5 + pp + pl) + pd := by omega
    have HR := Lib.hid (show pushM K x S = ({ S with ws := storeM K.n S.ws S.sp x, sp := S.sp + 1 }, 0) by unfold pushM; rw [HTop.out, if_neg ht])
    clear ht
    go_enter Tryz.func120, Tryz.ntmps120
    go_wp2_with fail
    refine wp_region_grow (by kernel_rfl) (by kernel_rfl) ?_
    repeat (first | go_big_quiet_step (first
      | (go_at_call 112; refine quiet_grow (here_eq (HG.out _) HS.out.toROk HP.out))
      | (go_at_call 48; refine quiet_grow (base_eq (by omega) (by omega) (by omega) (by omega) rfl))))
    refine wpQuiet_nil ?_
    rintro _ ⟨gx, rfl⟩
    have H1 := Lib.hid (HG.out gx)
    have HO1 := Lib.hid (Only.of_below (bs := K.bs) (growN_below W gx))
    clear HG m13 m14 hlt
    generalize growN W gx = w1 at *
    go_wp2_with fail
    have H2 := Lib.hid (H1.out.grow (drew_below w1))
    have HO2 := Lib.hid (HO1.out.trans (Only.of_below (drew_below w1)))
    clear H1 HO1
    refine wp_region_tail 9 (by kernel_rfl) (by kernel_rfl) ?_
    generalize w1.drew = w2 at *
    have m3 := H2.out.c3
    have m14 := H2.out.c14
    simp only [List.take_succ_cons, List.take_zero, List.drop_succ_cons, List.drop_zero]
    repeat still_step
    refine wpStill_nil ?_
    go_wp2_with fail
    refine (store_any K.bs K.bm K.n HK.out.hm S.ws S.sp x hx w2 H2.out.mem).mono ?_
    rintro e w3 ⟨rfl, hm3, ho3, hf3⟩
    have H3 := Lib.hid (H2.out.setMem HK.out hm3 ho3 hf3)
    have HO3 := Lib.hid (HO2.out.trans ho3)
    clear hm3 ho3 hf3 H2 HO2 m3 m14
    have m14 := H3.out.c14
    have f14 := H3.out.fz 14
    go_wp2_with fail
    go_ret
    rw [HR.out]
    exact ⟨rfl, H3.out.set_sp HK.out (S.sp + 1), HO3.out.setCell HK.out.hb _⟩

theorem row_eq (b n : Nat) (ws : Nat → Nat) (at_ : Int) (k : Nat) (h1 : 1 ≤ at_) (h2 : at_ + k ≤ n + 1) (W : World) (hM : MemAt b n ws W) : Calls Tryz.prog 177 #[.pointer (some ⟨b, 0, none⟩), .int .i64 at_, .int .i64 k] W fun e w' =>
    ∃ A c, e = .returned (.tuple #[.slice A k c, .bool true]) ∧ (∀ bs : List Nat, (∀ b ∈ bs, b < W.heap.size) → Words (mask bs w') A (rowM ws at_ k)) ∧ Below W.heap.size W w' := by
  have := row_any b n ws at_ k h1 h2 W hM
  unfold RowEnd at this
  rw [rowM_length] at this
  exact this
/-- A row of new words, all 0. -/
theorem make_words (w : World) (n : Nat) (hn : n ≤ 65535) : ∃ w', (Instr.makeSlice 71 (.int .i64 (n : Int)) (.int .i64 (n : Int))).run Tryz.prog w = .ok (.slice (some ⟨w.heap.size, 0, none⟩) n n) w' ∧ Below w.heap.size w w' ∧
    ∀ bs : List Nat, (∀ b ∈ bs, b < w.heap.size) → Words (mask bs w') (some ⟨w.heap.size, 0, none⟩) (List.replicate n 0) := by
  obtain ⟨i, z, hi, hz, hi1, hi2, _⟩ := etU16.info
  have hz0 : z = .int .u16 0 := by
    have h := u16_info
    rw [hi] at h
    simp only [Option.map_some, Option.some.injEq, Prod.mk.injEq, hz] at h
    exact h.1
  obtain ⟨w2, hr, hown, hgr⟩ := run_makeSlice_full (P := Tryz.prog) w w.heap.size 71 22 i z 1 etU16.und hi hz hi1 .i64 .i64 n (by omega) (by rw [hi2]; omega) (by unfold maxLen; omega) (Nat.le_refl _)
  have e : (madeCells z.cells (n * 1)).toList = wordVals (List.replicate n 0) := by
    subst hz0
    apply List.ext_getElem
    · simp [madeCells, wordVals]
    · intro j h1 h2
      simp [madeCells, wordVals, Value.cells, Nat.mod_one]
  rw [e] at hown
  refine ⟨w2, hr, (Below.refl _ _).grown hgr (Nat.le_refl _) (fun k hk => by cases hk), fun bs hbs => ?_⟩
  exact words_own_mask (c := n) (l := List.replicate n 0) (B := w.heap.size) (by rw [List.length_replicate]; exact hown) (by intro x hx; rw [List.eq_of_mem_replicate hx]; omega) bs hbs
/-- How pops end: the words, a trap. -/
def PopsEnd (K : MK) (W : World) (r : St × List Nat × Nat) (e : Ending) (W' : World) : Prop := ∃ A c, e = .returned (.tuple #[.slice A r.2.1.length c, .int .u8 (r.2.2 : Nat)]) ∧ Words (mask K.bs W') A r.2.1 ∧ At K r.1 W' ∧ Only K.bs W W'
def popsM (K : MK) (n : Nat) (S : St) : St × List Nat × Nat :=
  if S.sp - n < floorN K S then (S, List.replicate n 0, 14) else ({ S with sp := S.sp - n }, rowM S.ws (S.sp - n) n, 0)
theorem popsM_len (K : MK) (n : Nat) (S : St) : (popsM K n S).2.1.length = n := by unfold popsM; split <;> simp [rowM_length]
set_option maxHeartbeats 1000000 in
theorem pops_any (K : MK) (k : KOk K) (S : St) (s : SOk K S) (n : Nat) (hn : n ≤ 65535) (W : World) (h : At K S W) : Calls Tryz.prog 118 #[.pointer (some ⟨K.b, 0, none⟩), .int .i64 n] W (PopsEnd K W (popsM K n S)) := by
  have H := Lib.hid h
  have HK := Lib.hid k
  have HS := Lib.hid s
  obtain ⟨⟨_, _⟩, ⟨q2, q3⟩, ⟨q4, q5⟩, ⟨q6, q7⟩, _, _⟩ := hereOk k s.toROk
  have l1 := k.low1
  have l2 := k.lowh
  have l3 := k.high
  have l4 := k.n_le
  have l5 := s.fp1
  have l6 := s.sp0
  have l7 := s.sp1
  have l8 := s.top
  have htop : floorN K S = S.fp + baseN (hereP K S) := rfl
  generalize hp : hereP K S = p at *
  obtain ⟨pa, pp, pl, pd, pv, pf⟩ := p
  unfold baseN at l6 l7 l8 htop
  simp only at l6 l7 l8 q2 q3 q4 q5 q6 q7 htop
  have HP := Lib.hid hp
  have HTop := Lib.hid htop
  clear h k s hp htop
  have m13 := H.out.c13
  have m14 := H.out.c14
  have hlt := H.out.lt
  have HG := Lib.hid (fun x => H.out.grow (growN_below W x))
  have e1 : IntKind.i64.wrap (S.fp + (5 + pp + pl)) = S.fp + (5 + pp + pl) := IntWalk.i64_in _ (by omega)
  have e2 : IntKind.i64.wrap (S.sp - n) = S.sp - n := IntWalk.i64_in _ (by omega)
  by_cases ht : S.sp - n < S.fp + (5 + pp + pl)
  · have HR := Lib.hid (show popsM K n S = (S, List.replicate n 0, 14) by unfold popsM; rw [HTop.out, if_pos ht])
    go_enter Tryz.func118, Tryz.ntmps118
    go_wp2_with fail
    refine wp_region_grow (by kernel_rfl) (by kernel_rfl) ?_
    repeat (first | go_big_quiet_step (first
      | (go_at_call 112; refine quiet_grow (here_eq (HG.out _) HS.out.toROk HP.out))
      | (go_at_call 48; refine quiet_grow (base_eq (by omega) (by omega) (by omega) (by omega) rfl))))
    refine wpQuiet_nil ?_
    rintro _ ⟨gx, rfl⟩
    have H1 := Lib.hid (HG.out gx)
    have HO1 := Lib.hid (Only.of_below (bs := K.bs) (growN_below W gx))
    clear HG m13 m14 hlt
    generalize growN W gx = w1 at *
    obtain ⟨w2, hr, hb2, hW⟩ := make_words w1 n hn
    have HB2 := Lib.hid hb2
    have HMW := Lib.hid (hW K.bs H1.out.old)
    clear hb2 hW
    go_wp2_with fail
    refine bodyPost_ret (v := .tuple #[.slice (some ⟨w1.heap.size, 0, none⟩) n n, .int .u8 14]) (by simp [results, Tryz.results118, go_sem]) rfl ?_
    rw [HR.out]
    exact ⟨_, n, by rw [List.length_replicate]; rfl, HMW.out, H1.out.grow HB2.out, HO1.out.trans (Only.of_below HB2.out)⟩
  · have hnt : S.fp + (5 + pp + pl) ≤ S.sp - n := by omega
    have HR := Lib.hid (show popsM K n S = ({ S with sp := S.sp - n }, rowM S.ws (S.sp - n) n, 0) by unfold popsM; rw [HTop.out, if_neg ht])
    clear ht
    go_enter Tryz.func118, Tryz.ntmps118
    go_wp2_with fail
    refine wp_region_grow (by kernel_rfl) (by kernel_rfl) ?_
    repeat (first | go_big_quiet_step (first
      | (go_at_call 112; refine quiet_grow (here_eq (HG.out _) HS.out.toROk HP.out))
      | (go_at_call 48; refine quiet_grow (base_eq (by omega) (by omega) (by omega) (by omega) rfl))))
    refine wpQuiet_nil ?_
    rintro _ ⟨gx, rfl⟩
    have H1 := Lib.hid (HG.out gx)
    have HO1 := Lib.hid (Only.of_below (bs := K.bs) (growN_below W gx))
    clear HG m13 m14 hlt
    generalize growN W gx = w1 at *
    have m14 := H1.out.c14
    have f14 := H1.out.fz 14
    have H2 := Lib.hid (H1.out.set_sp HK.out (S.sp - n))
    have HO2 := Lib.hid (HO1.out.setCell (a := ⟨K.b, 14, none⟩) HK.out.hb (.int .i64 (S.sp - n)))
    go_wp2_with fail
    clear H1 HO1 m14 f14
    generalize w1.setCell ⟨K.b, 14, none⟩ (.int .i64 (S.sp - n)) = w2 at *
    have H3 := Lib.hid (H2.out.grow (drew_below w2))
    have HO3 := Lib.hid (HO2.out.trans (Only.of_below (drew_below w2)))
    clear H2 HO2
    have h3 := H3.out
    go_region_held3 (fun W => W.cell? ⟨K.b, 3, none⟩ = some (.pointer (some ⟨K.bm, 0, none⟩)) ∧ W.cell? ⟨K.b, 14, none⟩ = some (.int .i64 (S.sp - n))) (exact ⟨At.c3 (S := { S with sp := S.sp - n }) (by assumption), At.c14 (S := { S with sp := S.sp - n }) (by assumption)⟩) (first
      | (go_at_call 177
         refine (row_eq K.bm K.n S.ws (S.sp - n) n (by omega) (by omega) _ (At.mem (S := { S with sp := S.sp - n }) (by assumption))).mono ?_
         rintro e w4 ⟨A4, c4, rfl, hW4, hb4⟩
         have h4 := At.grow (K := K) (S := { S with sp := S.sp - n }) (by assumption) hb4))
    all_goals (go_wp2_with fail)
    all_goals (
      refine bodyPost_ret (v := .tuple #[.slice A4 n c4, .int .u8 0]) (by simp [results, Tryz.results118, go_sem]) rfl ?_
      rw [HR.out]
      exact ⟨A4, c4, by rw [rowM_length]; rfl, hW4 K.bs H3.out.old, h4, HO3.out.trans (Only.of_below hb4)⟩)
end Go.Proofs.YtpfcojnkflcnoaaGreatDoor
