/- code.Decode: outside of the text, and where no op stands. -/
import Derived.Test.YtgcmenjpcgdikaaDoorCl
import Derived.RegionTactic
namespace Go.Proofs.YtgcmenjpcgdikaaDoor
open Go.RowKit
set_option maxRecDepth 100000

/-- How Decode ends: an instruction whose numbers lie in new memory, the next place, an error. -/
def DecEnd (w : World) (r : InsL × Int × Int) (e : Ending) (w' : World) : Prop :=
  ∃ v, e = .returned (.tuple #[.agg #[.int .u8 r.1.1, v], .int .i64 r.2.1, .int .i64 r.2.2]) ∧ w'.ownsRow w.heap.size 3 1 v r.1.2.length (r.1.2.map (Value.int .i64)) ∧ Below w.heap.size w w'

set_option maxHeartbeats 600000 in
theorem dec_out (s : List UInt8) (hs : s.length ≤ 4294967296) (at_ : Int) (h : at_ < 0 ∨ (s.length : Int) ≤ at_) (w : World) :
    Calls Tryd.prog 9 #[.string ⟨s.toArray⟩, .int .i64 at_] w (DecEnd w ((0, []), 0, 2)) := by
  by_cases h0 : at_ < 0
  · have d0 : decide (at_ < 0) = true := by simpa using h0
    go_enter Tryd.func9, Tryd.ntmps9
    go_wp2_with fail
    refine bodyPost_ret (v := .tuple #[.agg #[.int .u8 0, .slice none 0 0], .int .i64 0, .int .i64 2]) (by simp [results, Tryd.results9, go_sem]) rfl ⟨_, rfl, ⟨rfl, .inl ⟨rfl, rfl⟩⟩, ?_⟩
    exact (((Below.refl _ _).alloc (Nat.le_refl _) _).alloc (by simp) _).alloc (by simp; omega) _
  · have d0 : decide (at_ < 0) = false := by simpa using h0
    have d1 : decide ((s.length : Int) ≤ at_) = true := by
      rcases h with h | h
      · exact absurd h h0
      · simpa using h
    clear h
    go_enter Tryd.func9, Tryd.ntmps9
    go_wp2_with fail
    refine bodyPost_ret (v := .tuple #[.agg #[.int .u8 0, .slice none 0 0], .int .i64 0, .int .i64 2]) (by simp [results, Tryd.results9, go_sem]) rfl ⟨_, rfl, ⟨rfl, .inl ⟨rfl, rfl⟩⟩, ?_⟩
    exact (((Below.refl _ _).alloc (Nat.le_refl _) _).alloc (by simp) _).alloc (by simp; omega) _

/-- The three boxes that Decode makes first. -/
theorem three_boxes {w w1 : World} {a b c d : Value} {t1 t2 t3 : TypeId} (hb : Below (((w.alloc (.cells #[a] t1)).alloc (.cells #[b, c] t2)).alloc (.cells #[d] t3)).heap.size (((w.alloc (.cells #[a] t1)).alloc (.cells #[b, c] t2)).alloc (.cells #[d] t3)) w1) :
    w1.heap[w.heap.size]? = some (.cells #[a] t1 (0, 0)) ∧ w1.heap[w.heap.size + 1]? = some (.cells #[b, c] t2 (0, 0)) ∧ w1.heap[w.heap.size + 2]? = some (.cells #[d] t3 (0, 0)) ∧ Below w.heap.size w w1 ∧ w.heap.size + 3 ≤ w1.heap.size := by
  have hz : (((w.alloc (.cells #[a] t1)).alloc (.cells #[b, c] t2)).alloc (.cells #[d] t3)).heap.size = w.heap.size + 3 := by simp
  rw [hz] at hb
  refine ⟨(hb.block _ (by omega)).trans ?_, (hb.block _ (by omega)).trans ?_, (hb.block _ (by omega)).trans ?_, ?_, by have := hb.size; rw [hz] at this; exact this⟩
  · rw [Below.heap_alloc _ _ _ (by simp; omega), Below.heap_alloc _ _ _ (by simp)]; exact heap_alloc_new _ _
  · rw [Below.heap_alloc _ _ _ (by simp)]
    have := heap_alloc_new (w.alloc (.cells #[a] t1)) (.cells #[b, c] t2)
    simpa using this
  · have := heap_alloc_new ((w.alloc (.cells #[a] t1)).alloc (.cells #[b, c] t2)) (.cells #[d] t3)
    simpa using this
  · exact ((((Below.refl _ _).alloc (Nat.le_refl _) _).alloc (by simp) _).alloc (by simp; omega) _).trans (hb.mono (by omega))

set_option maxHeartbeats 600000 in
theorem dec_none (s : List UInt8) (hs : s.length ≤ 4294967296) (k : Nat) (hk : k < s.length) (n : Nat) (hn : (s.getD k 0).toNat = n) (hT : thereB n = false) (w : World) (ht : Tab w) :
    Calls Tryd.prog 9 #[.string ⟨s.toArray⟩, .int .i64 k] w (DecEnd w ((0, []), 0, 160)) := by
  have hn2 : n < 256 := by rw [← hn]; exact (s.getD k 0).toNat_lt
  have hE := Lib.hid (show nameL n = [] by have := name_there n hn2; rw [hT] at this; simpa using this)
  have HN := Lib.hid (show ((⟨s.toArray⟩ : ByteArray)[k]'(by simpa [ByteArray.size] using hk)).toNat = n by
    rw [← hn, List.getD_eq_getElem?_getD, List.getElem?_eq_getElem hk]; rfl)
  clear hn hT
  have d0 : decide ((k : Int) < 0) = false := by simp
  have d1 : decide ((s.length : Int) ≤ (k : Int)) = false := by simp; omega
  go_enter Tryd.func9, Tryd.ntmps9
  go_wp2_with fail
  rw [HN.out]
  refine (name_any n hn2 _ (((ht.alloc _).alloc _).alloc _)).mono ?_
  rintro e w1 ⟨rfl, hb1⟩
  obtain ⟨g0, g1, g2, hbw, hz⟩ := three_boxes hb1
  rw [hE.out]
  have c0 : w1.cell? ⟨w.heap.size + 1, 0, none⟩ = some (.int .u8 0) := by unfold World.cell?; rw [g1]; rfl
  have c1 : w1.cell? ⟨w.heap.size + 1, 1, none⟩ = some (.slice none 0 0) := by unfold World.cell?; rw [g1]; rfl
  have c2 : w1.cell? ⟨w.heap.size + 1 + 1, 0, none⟩ = some (.int .i64 0) := OneB.cell g2
  have f0 : w1.frozen? ⟨w.heap.size + 1, 0, none⟩ = false := by unfold World.frozen?; rw [g1]; rfl
  have f1 : w1.frozen? ⟨w.heap.size + 1, 1, none⟩ = false := by unfold World.frozen?; rw [g1]; rfl
  have f2 : w1.frozen? ⟨w.heap.size + 1 + 1, 0, none⟩ = false := OneB.frozen g2
  have s0 := setCell_same c0
  have s1 := setCell_same c1
  have s2 := setCell_same c2
  clear hb1 g0 g1 g2
  go_wp2_with fail
  refine bodyPost_ret (v := .tuple #[.agg #[.int .u8 0, .slice none 0 0], .int .i64 0, .int .i64 160]) (by simp [results, Tryd.results9, go_sem, c0, c1, c2]) rfl ⟨_, rfl, ⟨rfl, .inl ⟨rfl, rfl⟩⟩, hbw⟩
end Go.Proofs.YtgcmenjpcgdikaaDoor
