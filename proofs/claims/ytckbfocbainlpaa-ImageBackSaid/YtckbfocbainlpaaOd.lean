/- The document's number, truth, packed, Pack. Condition: what lies in memory can lie there. -/
import Derived.Test.YtckbfocbainlpaaOc
namespace Go.Proofs.Ytckbfocbainlpaa
open Go.RowKit
set_option maxRecDepth 100000

/-- How a function ends that answers bytes of its own. -/
def RowEnd (w : World) (l : List UInt8) (e : Ending) (w' : World) : Prop := ∃ v, e = .returned v ∧ w'.ownsRow w.heap.size 5 1 v l.length (byteVals l).toList ∧ Below w.heap.size w w'
theorem own_block {w : World} {g : Nat} {l : List UInt8} (h : w.heap[g]? = some (.cells (byteVals l) 5 (0, 0))) (B n : Nat) (hB : B ≤ g) (hn : l.length = n) (hm : n ≤ 1000) : w.ownsRow B 5 1 (.slice (some ⟨g, 0, none⟩) n n) l.length (byteVals l).toList := by
  subst hn
  exact ⟨by simp [byteVals], .inr ⟨g, l.length, byteVals l, rfl, hB, h, Nat.le_refl _, by unfold maxLen; omega, by simp [byteVals], by rw [List.take_of_length_le (by simp [byteVals])]⟩⟩

set_option maxHeartbeats 400000 in
theorem refNumber_any (n m : Nat) (hn : n < two64) (hm : m ≤ 8) (w : World) :
    Calls Try.prog 59 #[.int .u64 n, .int .i64 m] w (RowEnd w (beN n m)) := by
  have hle : n ≤ 18446744073709551615 := by unfold two64 at hn; omega
  clear hn
  have hmk := make_bytes w m (by omega)
  go_enter Try.func59, Try.ntmps59
  go_wp2_with fail
  clear hmk
  go_loopg [0, 6] (m + 1) (fun g v i wr => ∃ j : Nat, j + g = m + 1 ∧ j ≤ m ∧ i = .int .i64 ((m : Int) - 1 - j) ∧ v = .int .u64 ((n / 256 ^ j : Nat) : Int) ∧ wr.heap[w.heap.size]? = some (.cells (byteVals (beTo n m j)) 5 (0, 0)) ∧ Below w.heap.size w wr)
  case atStart => exact ⟨0, by omega, by omega, by simp, by simp, by rw [beTo_zero]; exact heap_alloc_new w _, alloc_below w _⟩
  case round =>
    obtain ⟨j, hk, h8, rfl, rfl, hblk, hb⟩ := hrel
    have HBk := Lib.hid hblk
    clear hblk
    by_cases hlt : j < m
    · have HS := Lib.hid (beTo_set n m j hlt)
      have HV := Lib.hid (byteVals_set (beTo n m j) (m - (j + 1)) (UInt8.ofNat (n / 256 ^ j % 256)))
      have HU := Lib.hid (show ((UInt8.ofNat (n / 256 ^ j % 256)).toNat : Int) = ((n / 256 ^ j : Nat) : Int) % 256 by
        rw [show (UInt8.ofNat (n / 256 ^ j % 256)).toNat = n / 256 ^ j % 256 % 256 from UInt8.toNat_ofNat, Nat.mod_mod]
        simp)
      have HP := Lib.hid (show n / 256 ^ (j + 1) = n / 256 ^ j / 256 by rw [Nat.pow_succ, Nat.div_div_eq_div_mul])
      have hx : n / 256 ^ j ≤ 18446744073709551615 := Nat.le_trans (Nat.div_le_self _ _) hle
      have hc := (cell_block HBk.out (o := m - (j + 1))).trans (byteVals_at _ (m - (j + 1)) (by rw [beTo_length n m j (by omega)]; omega))
      have hf := frozen_block HBk.out (o := m - (j + 1))
      obtain ⟨q, hq⟩ : ∃ q : Nat, m = j + 1 + q := ⟨m - (j + 1), by omega⟩
      rw [show m - (j + 1) = q by omega] at hc hf HS HV
      rw [show (m : Int) - 1 - j = (q : Int) by omega]
      have hqm : (q : Int) < (m : Int) := by omega
      have hq8 : (q : Int) ≤ 8 := by omega
      have HQ := Lib.hid (show (m : Int) - 1 - ((j + 1 : Nat) : Int) = (q : Int) - 1 by omega)
      clear hq
      generalize n / 256 ^ j = x at *
      go_wp2_with fail
      go_roundg (gk - 1)
      case measure => omega
      case rel =>
        refine ⟨j + 1, by omega, by omega, ?_, ?_, ?_, hb.setCell (Nat.le_refl _) _⟩
        · rw [HQ.out]
        · rw [HP.out]; simp
        · rw [← HS.out, HV.out, HU.out]
          exact set_block HBk.out _
    · obtain rfl : j = m := by omega
      rw [beTo_full] at HBk
      have hneg : (j : Int) - 1 - j = -1 := by omega
      rw [hneg]
      go_wp2_with fail
      go_ret
      exact ⟨_, rfl, own_block HBk.out _ _ (Nat.le_refl _) (beN_length _ _) (by omega), hb⟩
theorem refNumber2 (x : Int) (h0 : 0 ≤ x) (hn : x ≤ 18446744073709551615) (w : World) :
    Calls Try.prog 59 #[.int .u64 x, .int .i64 2] w (RowEnd w (beN x.toNat 2)) := by
  obtain ⟨n, rfl⟩ : ∃ n : Nat, x = n := ⟨x.toNat, by omega⟩
  exact refNumber_any n 2 (by unfold two64; omega) (by omega) w
theorem refTruth_any (b : Bool) (w : World) : Calls Try.prog 60 #[.bool b] w fun e w' => e = .returned (.int .u8 (if b then 1 else 0)) ∧ w = w' := by
  cases b
  · go_enter Try.func60, Try.ntmps60
    go_wp2_with fail
    go_ret
    exact ⟨rfl, rfl⟩
  · go_enter Try.func60, Try.ntmps60
    go_wp2_with fail
    go_ret
    exact ⟨rfl, rfl⟩

theorem Box.app {k : Nat} {cs : Array Value} {T : TypeId} {W W' : World} {B : Nat} {v : Value} {n : Nat} {xs : List Value} (h : Box k cs T W) (hown : W.ownsRow B 5 1 v n xs) (hg : W.grownBy W' v.ownBlock) : Box k cs T W' := by
  refine ⟨(hg.block k h.lt (fun e => ?_)).trans h.1, h.2⟩
  rcases hown.2 with ⟨rfl, _⟩ | ⟨g, cap, cur, rfl, _, hgg, _⟩
  · cases e
  · have e : k = g := Option.some.inj e
    subst e
    have := h.1.symm.trans hgg
    injection this with this
    injection this with _ h2 _
    exact h.2 h2
/-- What stays while bytes are gathered: the box of the module, what is old; the bytes so far. -/
structure RInv (w : World) (s : MS) (m : ModL) (v : Value) (l : List UInt8) (W : World) : Prop where
  box : Box w.heap.size (modCells s m) 41 W
  old : Below w.heap.size w W
  own : W.ownsRow (w.heap.size + 1) 5 1 v l.length (byteVals l).toList
theorem RInv.grow {w : World} {s : MS} {m : ModL} {v : Value} {l : List UInt8} {W W' : World} (h : RInv w s m v l W) (hb : Below W.heap.size W W') : RInv w s m v l W' :=
  ⟨h.box.grow hb, h.old.trans (hb.mono (Nat.le_of_lt h.box.lt)), own_later h.own hb⟩
theorem RInv.app {w : World} {s : MS} {m : ModL} {v v' : Value} {l t : List UInt8} {W W' : World} {n : Nat} (h : RInv w s m v l W) (hA : App W W' (w.heap.size + 1) 5 1 v v' n ((byteVals l).toList ++ (byteVals t).toList)) (hn : n = l.length + t.length) : RInv w s m v' (l ++ t) W' := by
  refine ⟨h.box.app h.own hA.grown, hA.below h.old (Nat.le_of_lt h.box.lt) h.own (by omega), ?_⟩
  have := hA.own
  rw [hn] at this
  rw [List.length_append, byteVals_append]
  exact this
theorem RInv.size {w : World} {s : MS} {m : ModL} {v : Value} {l : List UInt8} {W : World} (h : RInv w s m v l W) : w.heap.size + 1 ≤ W.heap.size := h.box.lt
theorem RInv.c0 {w : World} {s : MS} {m : ModL} {v : Value} {l : List UInt8} {W : World} (h : RInv w s m v l W) : W.cell? ⟨w.heap.size, 0, none⟩ = some (.string ⟨m.code.toArray⟩) := (h.box.cell 0).trans rfl
theorem RInv.c1 {w : World} {s : MS} {m : ModL} {v : Value} {l : List UInt8} {W : World} (h : RInv w s m v l W) : W.cell? ⟨w.heap.size, 1, none⟩ = some (.slice s.A1 m.procs.length s.c1) := (h.box.cell 1).trans rfl
theorem RInv.c2 {w : World} {s : MS} {m : ModL} {v : Value} {l : List UInt8} {W : World} (h : RInv w s m v l W) : W.cell? ⟨w.heap.size, 2, none⟩ = some (.slice s.A2 m.imports.length s.c2) := (h.box.cell 2).trans rfl
theorem RInv.c3 {w : World} {s : MS} {m : ModL} {v : Value} {l : List UInt8} {W : World} (h : RInv w s m v l W) : W.cell? ⟨w.heap.size, 3, none⟩ = some (.int .i64 m.data) := (h.box.cell 3).trans rfl
theorem RInv.c4 {w : World} {s : MS} {m : ModL} {v : Value} {l : List UInt8} {W : World} (h : RInv w s m v l W) : W.cell? ⟨w.heap.size, 4, none⟩ = some (.slice s.A3 m.init.length s.c3) := (h.box.cell 4).trans rfl
theorem src_row {W : World} {B : Nat} {v : Value} {l : List UInt8} (h : W.ownsRow B 5 1 v l.length (byteVals l).toList) : Src Try.prog 1 51 v l.length (byteVals l).toList W := src_own etBytes h (byteVals_one l)
end Go.Proofs.Ytckbfocbainlpaa
