/- image.eight, the document's eight. No condition. -/
import Derived.Test.YtckbfocbainlpaaKa
import Derived.Laws.MakeOwn
namespace Go.Proofs.Ytckbfocbainlpaa
open Go.RowKit
set_option maxRecDepth 100000

/-- Bytes that lie at a place, as a string. -/
theorem conv_at {w : World} {g o cap : Nat} {l : List UInt8} {cs : Array Value} {t : TypeId} {fz : Nat × Nat} (h : w.heap[g]? = some (.cells cs t fz)) (hl : (cs.toList.drop o).take l.length = (byteVals l).toList) (n : Nat) (hn : l.length = n) :
    (convert 51 9 (.slice (some ⟨g, o, none⟩) n cap)).run Try.prog w = .ok (.string ⟨l.toArray⟩) w := by
  subst hn
  rw [run_convert_bytes_string w 51 9 5 _ _ cap Try.underlying51 Try.underlying5 Try.underlying9]
  have hl2 := run_loadCells_list (P := Try.prog) w ⟨g, o, none⟩ (byteVals l).toList (fun j u hj => by
    have hj' : j < l.length := by
      have := (List.getElem?_eq_some_iff.1 hj).1
      rwa [byteVals_length] at this
    have e : (⟨g, o, none⟩ : Addr).add j = ⟨g, o + j, none⟩ := by unfold Addr.add; split <;> simp_all
    rw [e]
    rw [← hl, List.getElem?_take, if_pos hj', List.getElem?_drop] at hj
    unfold World.cell?
    rw [h]
    simpa using hj)
  rw [byteVals_length] at hl2
  rw [run_bytesToString w ⟨g, o, none⟩ l.length cap (l.map fun b => (b.toNat : Int)) (by rw [hl2]; simp [byteVals])]
  congr 2
  have : ∀ (m : List UInt8) (r : ByteArray), (m.map fun b => (b.toNat : Int)).foldl (fun r (n : Int) => r.push (UInt8.ofNat n.toNat)) r = ⟨(r.data.toList ++ m).toArray⟩ := by
    intro m
    induction m with
    | nil => intro r; apply ByteArray.ext; simp
    | cons b m ih =>
      intro r
      simp only [List.map_cons, List.foldl_cons]
      rw [ih]
      apply ByteArray.ext
      simp [ByteArray.push]
  rw [this]
  simp [ByteArray.empty, ByteArray.emptyWithCapacity]
  rfl
theorem set_block {w : World} {g o : Nat} {cs : Array Value} {t : TypeId} {fz : Nat × Nat} (h : w.heap[g]? = some (.cells cs t fz)) (v : Value) : (w.setCell ⟨g, o, none⟩ v).heap[g]? = some (.cells (cs.setIfInBounds o v) t fz) := by
  simp [World.setCell, Array.getElem?_modify, h]
theorem cell_block {w : World} {g o : Nat} {cs : Array Value} {t : TypeId} {fz : Nat × Nat} (h : w.heap[g]? = some (.cells cs t fz)) : w.cell? ⟨g, o, none⟩ = cs[o]? := by
  unfold World.cell?; rw [h]; simp
theorem frozen_block {w : World} {g o : Nat} {cs : Array Value} {t : TypeId} (h : w.heap[g]? = some (.cells cs t (0, 0))) : w.frozen? ⟨g, o, none⟩ = false := by
  unfold World.frozen?; rw [h]; simp
theorem byteVals_set (l : List UInt8) (k : Nat) (b : UInt8) : byteVals (l.set k b) = (byteVals l).setIfInBounds k (.int .u8 (b.toNat : Int)) := by
  unfold byteVals; simp [List.map_set]
theorem byteVals_at (l : List UInt8) (k : Nat) (hk : k < l.length) : (byteVals l)[k]? = some (.int .u8 ((l.getD k 0).toNat : Int)) := by
  simp [byteVals, hk, List.getD_eq_getElem?_getD]

/-- The first k of the eight bytes, zeros behind them. -/
def eightTo (n k : Nat) : List UInt8 := (eightL n).take k ++ List.replicate (8 - k) 0
theorem eightTo_length (n k : Nat) (hk : k ≤ 8) : (eightTo n k).length = 8 := by
  unfold eightTo eightL; simp [beN_length]; omega
theorem take_rep_set (l : List UInt8) (m k : Nat) (hl : l.length = m) (hk : k < m) (x : UInt8) (hx : l.getD k 0 = x) : (l.take k ++ List.replicate (m - k) 0).set k x = l.take (k + 1) ++ List.replicate (m - (k + 1)) 0 := by
  have hlk : k < l.length := by omega
  rw [List.set_append_right _ _ (by rw [List.length_take]; exact Nat.min_le_left _ _), List.length_take, Nat.min_eq_left (by omega), Nat.sub_self, List.take_succ_eq_append_getElem hlk]
  have e : m - k = (m - (k + 1)) + 1 := by omega
  rw [e, List.replicate_succ, List.set_cons_zero, List.append_assoc]
  have : l[k] = x := by rw [← hx]; simp [List.getD_eq_getElem?_getD, hlk]
  rw [this]; rfl
theorem eightTo_set (n k : Nat) (hk : k < 8) : (eightTo n k).set k (UInt8.ofNat (n / 2 ^ (56 - 8 * k) % 256)) = eightTo n (k + 1) := by
  unfold eightTo
  refine take_rep_set _ 8 k (by unfold eightL; exact beN_length _ _) hk _ ?_
  unfold eightL
  rw [beN_get _ _ _ hk]
  congr 3
  rw [show (256 : Nat) = 2 ^ 8 from rfl, ← Nat.pow_mul]
  congr 1
  omega

theorem eightTo_full (n : Nat) : eightTo n 8 = eightL n := by
  unfold eightTo eightL; rw [List.take_of_length_le (Nat.le_of_eq (beN_length n 8))]; simp

set_option maxHeartbeats 400000 in
theorem eight_any (n : Nat) (w : World) :
    Calls Try.prog 24 #[.int .u64 n] w fun e w' => e = .returned (.string ⟨(eightL n).toArray⟩) ∧ Below w.heap.size w w' := by
  go_enter Try.func24, Try.ntmps24
  go_wp2_with fail
  go_loopg [5] 8 (fun g i wr => ∃ k : Nat, k + g = 8 ∧ i = .int .i64 k ∧ wr.heap[w.heap.size]? = some (.cells (byteVals (eightTo n k)) 96 (0, 0)) ∧ Below w.heap.size w wr)
  case atStart => exact ⟨0, by omega, rfl, heap_alloc_new w _, alloc_below w _⟩
  case round =>
    obtain ⟨k, hk, rfl, hblk, hb⟩ := hrel
    have HBk := Lib.hid hblk
    clear hblk
    by_cases hlt : k < 8
    · have hkI : (k : Int) < 8 := by omega
      have hc := (cell_block HBk.out (o := k)).trans (byteVals_at _ k (by rw [eightTo_length n k (by omega)]; exact hlt))
      have hf := frozen_block HBk.out (o := k)
      have HS := Lib.hid (eightTo_set n k hlt)
      have HV := Lib.hid (byteVals_set (eightTo n k) k (UInt8.ofNat (n / 2 ^ (56 - 8 * k) % 256)))
      have HU := Lib.hid (show ((UInt8.ofNat (n / 2 ^ (56 - 8 * k) % 256)).toNat : Int) = (n : Int) / 2 ^ (56 - 8 * k) % 256 by
        rw [show (UInt8.ofNat (n / 2 ^ (56 - 8 * k) % 256)).toNat = n / 2 ^ (56 - 8 * k) % 256 % 256 from UInt8.toNat_ofNat, Nat.mod_mod]
        simp)
      go_wp2_with fail
      go_roundg (gk - 1)
      case measure => omega
      case rel =>
        refine ⟨k + 1, by omega, by go_num, ?_, hb.setCell (Nat.le_refl _) _⟩
        rw [← HS.out, HV.out, HU.out]
        exact set_block HBk.out _
    · obtain rfl : k = 8 := by omega
      rw [eightTo_full] at HBk
      have hconv := conv_at (cap := 8) (o := 0) (l := eightL n) HBk.out (by rw [List.drop_zero, List.take_of_length_le (by rw [byteVals_length]; exact Nat.le_refl _)]) 8 (beN_length _ _)
      go_wp2_with fail
      go_ret
      exact ⟨rfl, hb⟩

/-- The last m of a number's bytes, zeros ahead of them. -/
def beTo (n m j : Nat) : List UInt8 := List.replicate (m - j) 0 ++ (beN n m).drop (m - j)
theorem beTo_zero (n m : Nat) : beTo n m 0 = List.replicate m 0 := by unfold beTo; simp [List.drop_of_length_le (Nat.le_of_eq (beN_length n m))]
theorem beTo_full (n m : Nat) : beTo n m m = beN n m := by unfold beTo; simp
theorem beTo_length (n m j : Nat) (hj : j ≤ m) : (beTo n m j).length = m := by unfold beTo; rw [List.length_append, List.length_replicate, List.length_drop, beN_length]; omega
theorem beTo_set (n m j : Nat) (hj : j < m) : (beTo n m j).set (m - (j + 1)) (UInt8.ofNat (n / 256 ^ j % 256)) = beTo n m (j + 1) := by
  unfold beTo
  have e : m - j = (m - (j + 1)) + 1 := by omega
  have hl : m - (j + 1) < (beN n m).length := by rw [beN_length]; omega
  rw [e, List.replicate_succ', List.append_assoc, List.set_append_right _ _ (by simp), List.length_replicate, Nat.sub_self]
  simp only [List.cons_append, List.nil_append, List.set_cons_zero]
  rw [List.drop_eq_getElem_cons hl]
  have := beN_get n m (m - (j + 1)) (by omega)
  rw [List.getD_eq_getElem?_getD, List.getElem?_eq_getElem hl, Option.getD_some] at this
  rw [this, show m - 1 - (m - (j + 1)) = j by omega]

theorem make_bytes (w : World) (m : Nat) (hm : m ≤ 1000) : (Instr.makeSlice 51 (.int .i64 m) (.int .i64 m)).run Try.prog w = .ok (.slice (some ⟨w.heap.size, 0, none⟩) m m) (w.alloc (.cells (byteVals (List.replicate m 0)) 5)) := by
  obtain ⟨i, h0, h1, h2, h3⟩ := info_parts byte_info
  have := run_makeSlice (P := Try.prog) w 51 5 i (.int .u8 0) Try.underlying51 h0 h1 .i64 .i64 m m (by omega) (Int.le_refl _) (by rw [h2]; simp; omega) (by rw [h3]; omega) (by omega)
  rw [this]
  congr 3
  rw [h2]
  unfold madeCells byteVals
  apply Array.ext
  · simp
  · intro j hj hj2
    simp [Value.cells, Nat.mod_one]

set_option maxHeartbeats 400000 in
theorem refEight_any (n : Nat) (hn : n < two64) (w : World) :
    Calls Try.prog 27 #[.int .u64 n] w fun e w' => e = .returned (.string ⟨(eightL n).toArray⟩) ∧ Below w.heap.size w w' := by
  have hle : n ≤ 18446744073709551615 := by unfold two64 at hn; omega
  clear hn
  have hmk : (Instr.makeSlice 51 (.int .i64 8) (.int .i64 8)).run Try.prog w = .ok (.slice (some ⟨w.heap.size, 0, none⟩) 8 8) (w.alloc (.cells (byteVals (List.replicate 8 0)) 5)) := make_bytes w 8 (by omega)
  go_enter Try.func27, Try.ntmps27
  go_wp2_with fail
  go_loopg [0, 4] 9 (fun g v i wr => ∃ j : Nat, j + g = 9 ∧ j ≤ 8 ∧ i = .int .i64 (7 - j) ∧ v = .int .u64 ((n / 256 ^ j : Nat) : Int) ∧ wr.heap[w.heap.size]? = some (.cells (byteVals (beTo n 8 j)) 5 (0, 0)) ∧ Below w.heap.size w wr)
  case atStart => exact ⟨0, by omega, by omega, rfl, by simp, by rw [beTo_zero]; exact heap_alloc_new w _, alloc_below w _⟩
  case round =>
    obtain ⟨j, hk, h8, rfl, rfl, hblk, hb⟩ := hrel
    have HBk := Lib.hid hblk
    clear hblk
    by_cases hlt : j < 8
    · have hjI : (j : Int) < 8 := by omega
      have hc := (cell_block HBk.out (o := 8 - (j + 1))).trans (byteVals_at _ (8 - (j + 1)) (by rw [beTo_length n 8 j (by omega)]; omega))
      have hf := frozen_block HBk.out (o := 8 - (j + 1))
      have HS := Lib.hid (beTo_set n 8 j hlt)
      have HV := Lib.hid (byteVals_set (beTo n 8 j) (8 - (j + 1)) (UInt8.ofNat (n / 256 ^ j % 256)))
      have HU := Lib.hid (show ((UInt8.ofNat (n / 256 ^ j % 256)).toNat : Int) = ((n / 256 ^ j : Nat) : Int) % 256 by
        rw [show (UInt8.ofNat (n / 256 ^ j % 256)).toNat = n / 256 ^ j % 256 % 256 from UInt8.toNat_ofNat, Nat.mod_mod]
        simp)
      have HP := Lib.hid (show n / 256 ^ (j + 1) = n / 256 ^ j / 256 by rw [Nat.pow_succ, Nat.div_div_eq_div_mul])
      have hx : n / 256 ^ j ≤ 18446744073709551615 := Nat.le_trans (Nat.div_le_self _ _) hle
      have h0 : (0 : Int) ≤ 7 - j := by omega
      rw [show 8 - (j + 1) = 7 - j by omega] at hc hf HS HV
      generalize n / 256 ^ j = x at *
      go_wp2_with fail
      go_roundg (gk - 1)
      case measure => omega
      case rel =>
        refine ⟨j + 1, by omega, by omega, by go_num, ?_, ?_, hb.setCell (Nat.le_refl _) _⟩
        · rw [HP.out]; simp
        · rw [← HS.out, HV.out, HU.out]
          exact set_block HBk.out _
    · obtain rfl : j = 8 := by omega
      rw [beTo_full] at HBk
      have hconv := conv_at (cap := 8) (o := 0) (l := eightL n) HBk.out (by rw [List.drop_zero, List.take_of_length_le (by rw [byteVals_length]; exact Nat.le_refl _)]; rfl) 8 (beN_length _ _)
      go_wp2_with fail
      go_ret
      exact ⟨rfl, hb⟩
end Go.Proofs.Ytckbfocbainlpaa
