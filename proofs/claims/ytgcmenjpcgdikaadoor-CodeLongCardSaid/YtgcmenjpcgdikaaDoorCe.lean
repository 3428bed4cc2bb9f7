/- The walk of code.numbers; a look-up in what it makes. -/
import Derived.Test.YtgcmenjpcgdikaaDoorCd
import Derived.Maps.OwnOps
namespace Go.Proofs.YtgcmenjpcgdikaaDoor
open Go.RowKit
set_option maxRecDepth 100000

theorem run_checkKey_i32 (b : Bool) (k : Int) (w : World) : (Instr.checkKey b 10000 21 (.int .i32 k)).run Tryd.prog w = .ok () w := by
  exact MapKept.run_checkKey Tryd.underlying21 (by trivial) b 9999
theorem run_findKey_i32 (k : Int) (es : List MapEntry) (r : Option (Nat × Value)) (h : Instr.findNow (.int .i32) (.int .i32 k) es 0 = some r) (w : World) : (Instr.findKey 21 (.int .i32 k) es).run Tryd.prog w = .ok r w := by
  simp [Instr.findKey, run_underlying Tryd.underlying21, h]
theorem push_set_last {α : Type} (a : Array α) (x y : α) : (a.push x).setIfInBounds a.size y = a.push y := by
  apply Array.ext'
  simp
theorem run_insert_i32 (w : World) (es : Array MapEntry) (c : Nat) (k : Int) (v : Value) (h : Instr.findNow (.int .i32) (.int .i32 k) es.toList 0 = some none) :
    (Instr.mapUpdate 59 (.map (some w.heap.size)) (.int .i32 k) v).run Tryd.prog (w.alloc (.map es c)) = .ok () (w.alloc (.map (es.push ⟨.int .i32 k, v, c⟩) (c + 1))) := by
  have hb := heap_alloc_new w (.map es c)
  simp [Instr.mapUpdate, run_underlying Tryd.underlying59, MapKept.run_getObj_map hb, run_checkKey_i32, run_findKey_i32 k _ _ h, MapKept.run_setObj_map _ hb, Result.andThen]
  show ({ w with heap := (w.heap.push (.map es c)).setIfInBounds w.heap.size _ } : World) = { w with heap := w.heap.push _ }
  rw [push_set_last]
/-- What code.numbers makes: the three kinds of numbers. -/
def numEntries : Array MapEntry := #[⟨.int .i32 66, .agg #[.int .i64 0, .int .i64 255, .int .i64 1], 0⟩, ⟨.int .i32 87, .agg #[.int .i64 0, .int .i64 65535, .int .i64 2], 1⟩, ⟨.int .i32 74, .agg #[.int .i64 (-32768), .int .i64 32767, .int .i64 2], 2⟩]

set_option maxHeartbeats 400000 in
theorem numbers_any (w : World) :
    Calls Tryd.prog 27 #[] w fun e w' => e = .returned (.map (some w.heap.size)) ∧ w' = w.alloc (.map numEntries 3) := by
  have hmm := @run_makeMap Tryd.prog
  have h1 := run_insert_i32 w #[] 0 66 (.agg #[.int .i64 0, .int .i64 255, .int .i64 1]) rfl
  have h2 := run_insert_i32 w #[⟨.int .i32 66, .agg #[.int .i64 0, .int .i64 255, .int .i64 1], 0⟩] 1 87 (.agg #[.int .i64 0, .int .i64 65535, .int .i64 2]) rfl
  have h3 := run_insert_i32 w #[⟨.int .i32 66, .agg #[.int .i64 0, .int .i64 255, .int .i64 1], 0⟩, ⟨.int .i32 87, .agg #[.int .i64 0, .int .i64 65535, .int .i64 2], 1⟩] 2 74 (.agg #[.int .i64 (-32768), .int .i64 32767, .int .i64 2]) rfl
  simp only [List.push_toArray, List.cons_append, List.nil_append] at h1 h2 h3
  go_enter Tryd.func27, Tryd.ntmps27
  go_wp2_with fail
  go_ret
  exact ⟨rfl, rfl⟩

theorem run_look_num (w : World) (r : Nat) (h : w.heap[r]? = some (.map numEntries 3)) (k : Int) (i : Nat) (v : Value) (hf : Instr.findNow (.int .i32) (.int .i32 k) numEntries.toList 0 = some (some (i, v))) :
    (Instr.lookup 59 (.map (some r)) (.int .i32 k) false).run Tryd.prog w = .ok v w := by
  simp [Instr.lookup, run_underlying Tryd.underlying59, MapKept.run_getObj_map h, run_checkKey_i32, run_findKey_i32 k _ _ hf, Result.andThen]
theorem look_B (w : World) (r : Nat) (h : w.heap[r]? = some (.map numEntries 3)) : (Instr.lookup 59 (.map (some r)) (.int .i32 66) false).run Tryd.prog w = .ok (.agg #[.int .i64 0, .int .i64 255, .int .i64 1]) w := run_look_num w r h 66 0 _ rfl
theorem look_W (w : World) (r : Nat) (h : w.heap[r]? = some (.map numEntries 3)) : (Instr.lookup 59 (.map (some r)) (.int .i32 87) false).run Tryd.prog w = .ok (.agg #[.int .i64 0, .int .i64 65535, .int .i64 2]) w := run_look_num w r h 87 1 _ rfl
theorem look_J (w : World) (r : Nat) (h : w.heap[r]? = some (.map numEntries 3)) : (Instr.lookup 59 (.map (some r)) (.int .i32 74) false).run Tryd.prog w = .ok (.agg #[.int .i64 (-32768), .int .i64 32767, .int .i64 2]) w := run_look_num w r h 74 2 _ rfl
end Go.Proofs.YtgcmenjpcgdikaaDoor
