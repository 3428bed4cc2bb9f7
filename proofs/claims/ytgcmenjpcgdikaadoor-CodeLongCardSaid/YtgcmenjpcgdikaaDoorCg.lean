/- code.rows, number.bytes and the look-up at whatever letter; code.one where there is no such op, or not so many numbers. -/
import Derived.Test.YtgcmenjpcgdikaaDoorCf
import Derived.Test.YtgcmenjpcgdikaaDoorCa
import Derived.Lib.OthersKept
namespace Go.Proofs.YtgcmenjpcgdikaaDoor
open Go.RowKit
set_option maxRecDepth 100000

/-- A slice's address under which so many ints lie. -/
def Ints (w : World) (A : Option Addr) (xs : List Int) : Prop :=
  xs = [] ∨ ∃ b off, A = some ⟨b, off, none⟩ ∧ b < w.heap.size ∧ ∀ j, j < xs.length → w.cell? ⟨b, off + j, none⟩ = some (.int .i64 (xs.getD j 0))
theorem Ints.later {w w' : World} {A : Option Addr} {xs : List Int} {B : Nat} (h : Ints w A xs) (hb : Below B w w') (hB : w.heap.size ≤ B) : Ints w' A xs := by
  rcases h with h | ⟨b, off, e, hlt, hc⟩
  · exact .inl h
  · exact .inr ⟨b, off, e, Nat.lt_of_lt_of_le hlt hb.size, fun j hj => (hb.cell (p := ⟨b, off + j, none⟩) (Nat.lt_of_lt_of_le hlt hB)).trans (hc j hj)⟩
theorem Ints.at_ {w : World} {A : Option Addr} {xs : List Int} (h : Ints w A xs) {j : Nat} (hj : j < xs.length) :
    ∃ b off, A = some ⟨b, off, none⟩ ∧ b < w.heap.size ∧ w.cell? ⟨b, off + j, none⟩ = some (.int .i64 (xs.getD j 0)) := by
  rcases h with h | ⟨b, off, e, hlt, hc⟩
  · subst h; simp at hj
  · exact ⟨b, off, e, hlt, hc j hj⟩

theorem rows_any (n : Nat) (hn : n < 256) (A : Option Addr) (len cap : Nat) (hl : len ≤ 9223372036854775807) (w : World) (ht : Tab w) :
    Calls Tryd.prog 40 #[.agg #[.int .u8 n, .slice A len cap]] w fun e w' => e = .returned (.tuple #[.int .i64 (rowsOf n len), .bool (rowsOk n len)]) ∧ Below w.heap.size w w' := by
  unfold rowsOf rowsOk
  by_cases h : n = 60
  · subst h; rw [if_pos rfl, if_pos rfl]; exact rows_case A len cap hl w ht
  · rw [if_neg h, if_neg h]; exact rows_not n hn h A len cap hl w ht

theorem bytes_any (c : UInt8) (hc : letter c) (x : Int) (w : World) :
    Calls Tryd.prog 41 #[.agg #[.int .i64 (lowK c), .int .i64 (highK c), .int .i64 (sizeK c)], .int .i64 x] w fun e w' =>
      e = .returned (.string ⟨(encArg c x).toArray⟩) ∧ Below w.heap.size w w' := by
  rcases hc with rfl | rfl | rfl
  · exact bytes1 _ _ x w
  · exact bytes2 _ _ x w
  · exact bytes2 _ _ x w

theorem look_any (c : UInt8) (hc : letter c) (w : World) (r : Nat) (h : w.heap[r]? = some (.map numEntries 3)) :
    (Instr.lookup 59 (.map (some r)) (.int .i32 (c.toNat : Int)) false).run Tryd.prog w = .ok (.agg #[.int .i64 (lowK c), .int .i64 (highK c), .int .i64 (sizeK c)]) w := by
  rcases hc with rfl | rfl | rfl
  · exact look_B w r h
  · exact look_W w r h
  · exact look_J w r h

theorem name_empty (n : Nat) (hn : n < 256) : (nameL n).isEmpty = !thereB n := name_there n hn

/-- How a function that answers bytes and an error ends. -/
def OneEnd (w : World) (r : List UInt8 × Int) (e : Ending) (w' : World) : Prop := e = .returned (.tuple #[.string ⟨r.1.toArray⟩, .int .i64 r.2]) ∧ Below w.heap.size w w'

set_option maxHeartbeats 400000 in
theorem one_none (n : Nat) (hn : n < 256) (hT : thereB n = false) (A : Option Addr) (len cap : Nat) (hl : len ≤ 9223372036854775807) (w : World) (ht : Tab w) :
    Calls Tryd.prog 32 #[.agg #[.int .u8 n, .slice A len cap]] w fun e w' => e = .returned (.tuple #[.string ⟨#[]⟩, .int .i64 160]) ∧ Below w.heap.size w w' := by
  have hE := Lib.hid (show nameL n = [] by have := name_there n hn; rw [hT] at this; simpa using this)
  clear hT
  go_enter Tryd.func32, Tryd.ntmps32
  go_wp2_with fail
  refine (rows_any n hn A len cap hl _ (ht.alloc _)).mono ?_
  rintro e w1 ⟨rfl, hb1⟩
  have ht1 := (ht.alloc _).later hb1
  obtain ⟨c0, c1, hb, hs⟩ := box2 hb1
  clear hb1
  go_wp2_with fail
  refine (numbers_any _).mono ?_
  rintro e w2 ⟨rfl, rfl⟩
  go_wp2_with fail
  refine (name_any n hn _ (ht1.alloc _)).mono ?_
  rintro e w3 ⟨rfl, hb3⟩
  rw [hE.out]
  go_wp2_with fail
  go_ret2
  exact ⟨rfl, (hb.alloc (by omega) _).trans (hb3.mono (by simp; omega))⟩
end Go.Proofs.YtgcmenjpcgdikaaDoor
