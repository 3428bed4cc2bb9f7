/- The walks of code.names and code.Name. Condition: the table strings.asciiSpace holds what its initialiser lays (Tab). -/
import Derived.Test.YtgcmenjpcgdikaaDoorLw
import Derived.Test.YtgcmenjpcgdikaaDoorNm
import Derived.Test.YtgcmenjpcgdikaaDoorShelf
import Derived.Lib.Hide
namespace Go.Proofs.YtgcmenjpcgdikaaDoor
open Go.RowKit
set_option maxRecDepth 100000

/-- The table of white ASCII characters, as it lies in memory. -/
def Tab (w : World) : Prop := ∀ c : Nat, c < 256 → w.cell? ⟨0, c, none⟩ = some (.int .u8 (if Lib.isSp (UInt8.ofNat c) then 1 else 0))
theorem Tab.pos {w : World} (h : Tab w) : 0 < w.heap.size := by
  have h0 := h 0 (by omega)
  rcases Nat.lt_or_ge 0 w.heap.size with hlt | hge
  · exact hlt
  · unfold World.cell? at h0; simp [Array.getElem?_eq_none hge] at h0
theorem Tab.below {w w' : World} {B : Nat} (h : Tab w) (hb : Below B w w') (hB : 0 < B) : Tab w' := fun c hc => (hb.cell (p := ⟨0, c, none⟩) hB).trans (h c hc)
theorem Tab.later {w w' : World} (h : Tab w) (hb : Below w.heap.size w w') : Tab w' := h.below hb h.pos
theorem Tab.alloc {w : World} (h : Tab w) (o : Obj) : Tab (w.alloc o) := h.later ((Below.refl _ _).alloc (Nat.le_refl _) o)
theorem Tab.drew {w : World} (h : Tab w) : Tab w.drew := h

theorem fields_any (s : ByteArray) (w : World) (hs : s.size < 4294967281) (hascii : ∀ (j : Nat) b, s.data.toList[j]? = some b → b.toNat < 128) (ht : Tab w) :
    Calls Tryd.prog 43 #[.string s] w fun e w' =>
      e = .returned (.slice (some ⟨w.heap.size, 0, none⟩) (Lib.fields s.data.toList).length (Lib.fields s.data.toList).length) ∧ w' = w.alloc (.cells ((Lib.fields s.data.toList).map fun l => Value.string ⟨l.toArray⟩).toArray 9) :=
  Any.strings_Fields_core Tryd.lays157 (by kernel_rfl) s w hs hascii ht

/-- The cells that hold a list of names. -/
def nameCells (l : List (List UInt8)) : Array Value := (l.map fun x => Value.string ⟨x.toArray⟩).toArray

theorem of_all_lt (l : List UInt8) (h : (l.all fun b => b.toNat < 128) = true) (j : Nat) (b : UInt8) (hj : l[j]? = some b) : b.toNat < 128 := by
  have := List.all_eq_true.1 h b (List.mem_of_getElem? hj)
  simpa using this

theorem fields_ops (w : World) (ht : Tab w) :
    Calls Tryd.prog 43 #[.string ⟨#[105, 97, 100, 100, 32, 105, 115, 117, 98, 32, 105, 109, 117, 108, 32, 105, 100, 105, 118, 32, 105, 109, 111, 100, 32, 105, 110, 101, 103, 32, 105, 97, 98, 115, 32, 99, 97, 100, 100, 32, 99, 115, 117, 98, 32, 99, 109, 117, 108, 32, 99, 100, 105, 118, 32, 99, 109, 111, 100, 32, 101, 113, 32, 110, 101, 32, 105, 108, 116, 32, 105, 108, 101, 32, 105, 103, 116, 32, 105, 103, 101, 32, 99, 108, 116, 32, 99, 108, 101, 32, 99, 103, 116, 32, 99, 103, 101, 32, 110, 111, 116, 32, 111, 114, 32, 97, 110, 100, 110, 32, 97, 110, 100, 32, 120, 111, 114, 32, 105, 110, 32, 115, 117, 98, 32, 111, 110, 101, 32, 114, 111, 119]⟩] w fun e w' =>
      e = .returned (.slice (some ⟨w.heap.size, 0, none⟩) 31 31) ∧ w' = w.alloc (.cells (nameCells opsNames) 9) := by
  have hf : Lib.fields ([105, 97, 100, 100, 32, 105, 115, 117, 98, 32, 105, 109, 117, 108, 32, 105, 100, 105, 118, 32, 105, 109, 111, 100, 32, 105, 110, 101, 103, 32, 105, 97, 98, 115, 32, 99, 97, 100, 100, 32, 99, 115, 117, 98, 32, 99, 109, 117, 108, 32, 99, 100, 105, 118, 32, 99, 109, 111, 100, 32, 101, 113, 32, 110, 101, 32, 105, 108, 116, 32, 105, 108, 101, 32, 105, 103, 116, 32, 105, 103, 101, 32, 99, 108, 116, 32, 99, 108, 101, 32, 99, 103, 116, 32, 99, 103, 101, 32, 110, 111, 116, 32, 111, 114, 32, 97, 110, 100, 110, 32, 97, 110, 100, 32, 120, 111, 114, 32, 105, 110, 32, 115, 117, 98, 32, 111, 110, 101, 32, 114, 111, 119] : List UInt8) = opsNames := by decide +kernel
  have h := fields_any ⟨#[105, 97, 100, 100, 32, 105, 115, 117, 98, 32, 105, 109, 117, 108, 32, 105, 100, 105, 118, 32, 105, 109, 111, 100, 32, 105, 110, 101, 103, 32, 105, 97, 98, 115, 32, 99, 97, 100, 100, 32, 99, 115, 117, 98, 32, 99, 109, 117, 108, 32, 99, 100, 105, 118, 32, 99, 109, 111, 100, 32, 101, 113, 32, 110, 101, 32, 105, 108, 116, 32, 105, 108, 101, 32, 105, 103, 116, 32, 105, 103, 101, 32, 99, 108, 116, 32, 99, 108, 101, 32, 99, 103, 116, 32, 99, 103, 101, 32, 110, 111, 116, 32, 111, 114, 32, 97, 110, 100, 110, 32, 97, 110, 100, 32, 120, 111, 114, 32, 105, 110, 32, 115, 117, 98, 32, 111, 110, 101, 32, 114, 111, 119]⟩ w (by decide +kernel) (fun j b hj => of_all_lt _ (by decide +kernel) j b hj) ht
  rw [show Lib.fields (⟨#[105, 97, 100, 100, 32, 105, 115, 117, 98, 32, 105, 109, 117, 108, 32, 105, 100, 105, 118, 32, 105, 109, 111, 100, 32, 105, 110, 101, 103, 32, 105, 97, 98, 115, 32, 99, 97, 100, 100, 32, 99, 115, 117, 98, 32, 99, 109, 117, 108, 32, 99, 100, 105, 118, 32, 99, 109, 111, 100, 32, 101, 113, 32, 110, 101, 32, 105, 108, 116, 32, 105, 108, 101, 32, 105, 103, 116, 32, 105, 103, 101, 32, 99, 108, 116, 32, 99, 108, 101, 32, 99, 103, 116, 32, 99, 103, 101, 32, 110, 111, 116, 32, 111, 114, 32, 97, 110, 100, 110, 32, 97, 110, 100, 32, 120, 111, 114, 32, 105, 110, 32, 115, 117, 98, 32, 111, 110, 101, 32, 114, 111, 119]⟩ : ByteArray).data.toList = opsNames from hf] at h
  exact h

theorem fields_ins (w : World) (ht : Tab w) :
    Calls Tryd.prog 43 #[.string ⟨#[108, 105, 116, 32, 108, 103, 32, 115, 103, 32, 97, 103, 32, 108, 108, 32, 115, 108, 32, 97, 108, 32, 108, 105, 32, 115, 105, 32, 97, 100, 100, 32, 112, 116, 114, 32, 105, 120, 32, 105, 120, 111, 112, 32, 114, 97, 110, 103, 101, 32, 99, 111, 110, 118, 32, 106, 109, 112, 32, 106, 122, 32, 106, 110, 122, 32, 106, 122, 107, 32, 106, 110, 107, 32, 99, 97, 115, 101, 32, 109, 97, 114, 107, 32, 99, 97, 108, 108, 32, 99, 97, 108, 108, 120, 32, 99, 97, 108, 108, 102, 32, 114, 101, 116, 32, 114, 101, 116, 102, 32, 112, 114, 111, 99, 32, 100, 117, 112, 32, 100, 114, 111, 112, 32, 115, 119, 97, 112, 32, 109, 111, 118, 101, 32, 110, 101, 119, 32, 102, 114, 101, 101, 32, 114, 101, 97, 100, 32, 119, 114, 105, 116, 101, 32, 119, 114, 115, 32, 119, 114, 105, 32, 119, 114, 99, 32, 119, 114, 108, 110, 32, 116, 114, 97, 112, 32, 100, 117, 112, 120]⟩] w fun e w' =>
      e = .returned (.slice (some ⟨w.heap.size, 0, none⟩) 42 42) ∧ w' = w.alloc (.cells (nameCells insNames) 9) := by
  have hf : Lib.fields ([108, 105, 116, 32, 108, 103, 32, 115, 103, 32, 97, 103, 32, 108, 108, 32, 115, 108, 32, 97, 108, 32, 108, 105, 32, 115, 105, 32, 97, 100, 100, 32, 112, 116, 114, 32, 105, 120, 32, 105, 120, 111, 112, 32, 114, 97, 110, 103, 101, 32, 99, 111, 110, 118, 32, 106, 109, 112, 32, 106, 122, 32, 106, 110, 122, 32, 106, 122, 107, 32, 106, 110, 107, 32, 99, 97, 115, 101, 32, 109, 97, 114, 107, 32, 99, 97, 108, 108, 32, 99, 97, 108, 108, 120, 32, 99, 97, 108, 108, 102, 32, 114, 101, 116, 32, 114, 101, 116, 102, 32, 112, 114, 111, 99, 32, 100, 117, 112, 32, 100, 114, 111, 112, 32, 115, 119, 97, 112, 32, 109, 111, 118, 101, 32, 110, 101, 119, 32, 102, 114, 101, 101, 32, 114, 101, 97, 100, 32, 119, 114, 105, 116, 101, 32, 119, 114, 115, 32, 119, 114, 105, 32, 119, 114, 99, 32, 119, 114, 108, 110, 32, 116, 114, 97, 112, 32, 100, 117, 112, 120] : List UInt8) = insNames := by decide +kernel
  have h := fields_any ⟨#[108, 105, 116, 32, 108, 103, 32, 115, 103, 32, 97, 103, 32, 108, 108, 32, 115, 108, 32, 97, 108, 32, 108, 105, 32, 115, 105, 32, 97, 100, 100, 32, 112, 116, 114, 32, 105, 120, 32, 105, 120, 111, 112, 32, 114, 97, 110, 103, 101, 32, 99, 111, 110, 118, 32, 106, 109, 112, 32, 106, 122, 32, 106, 110, 122, 32, 106, 122, 107, 32, 106, 110, 107, 32, 99, 97, 115, 101, 32, 109, 97, 114, 107, 32, 99, 97, 108, 108, 32, 99, 97, 108, 108, 120, 32, 99, 97, 108, 108, 102, 32, 114, 101, 116, 32, 114, 101, 116, 102, 32, 112, 114, 111, 99, 32, 100, 117, 112, 32, 100, 114, 111, 112, 32, 115, 119, 97, 112, 32, 109, 111, 118, 101, 32, 110, 101, 119, 32, 102, 114, 101, 101, 32, 114, 101, 97, 100, 32, 119, 114, 105, 116, 101, 32, 119, 114, 115, 32, 119, 114, 105, 32, 119, 114, 99, 32, 119, 114, 108, 110, 32, 116, 114, 97, 112, 32, 100, 117, 112, 120]⟩ w (by decide +kernel) (fun j b hj => of_all_lt _ (by decide +kernel) j b hj) ht
  rw [show Lib.fields (⟨#[108, 105, 116, 32, 108, 103, 32, 115, 103, 32, 97, 103, 32, 108, 108, 32, 115, 108, 32, 97, 108, 32, 108, 105, 32, 115, 105, 32, 97, 100, 100, 32, 112, 116, 114, 32, 105, 120, 32, 105, 120, 111, 112, 32, 114, 97, 110, 103, 101, 32, 99, 111, 110, 118, 32, 106, 109, 112, 32, 106, 122, 32, 106, 110, 122, 32, 106, 122, 107, 32, 106, 110, 107, 32, 99, 97, 115, 101, 32, 109, 97, 114, 107, 32, 99, 97, 108, 108, 32, 99, 97, 108, 108, 120, 32, 99, 97, 108, 108, 102, 32, 114, 101, 116, 32, 114, 101, 116, 102, 32, 112, 114, 111, 99, 32, 100, 117, 112, 32, 100, 114, 111, 112, 32, 115, 119, 97, 112, 32, 109, 111, 118, 101, 32, 110, 101, 119, 32, 102, 114, 101, 101, 32, 114, 101, 97, 100, 32, 119, 114, 105, 116, 101, 32, 119, 114, 115, 32, 119, 114, 105, 32, 119, 114, 99, 32, 119, 114, 108, 110, 32, 116, 114, 97, 112, 32, 100, 117, 112, 120]⟩ : ByteArray).data.toList = insNames from hf] at h
  exact h


set_option maxHeartbeats 400000 in
theorem names_any (w : World) (ht : Tab w) :
    Calls Tryd.prog 36 #[] w fun e w' => e = .returned (.tuple #[.slice (some ⟨w.heap.size, 0, none⟩) 31 31, .slice (some ⟨w.heap.size + 1, 0, none⟩) 42 42]) ∧
      w' = (w.alloc (.cells (nameCells opsNames) 9)).alloc (.cells (nameCells insNames) 9) := by
  go_enter Tryd.func36, Tryd.ntmps36
  go_wp2_with fail
  refine (fields_ops _ ht).mono ?_
  rintro e w' ⟨rfl, rfl⟩
  go_wp2_with fail
  refine (fields_ins _ (ht.alloc _)).mono ?_
  rintro e w' ⟨rfl, rfl⟩
  go_wp2_with fail
  go_ret2
  exact ⟨by simp, rfl⟩

theorem cell_names (w : World) (l : List (List UInt8)) (j : Nat) (hj : j < l.length) (B : Nat) (hB : w.heap[B]? = some (.cells (nameCells l) 9)) : w.cell? ⟨B, j, none⟩ = some (.string ⟨(l.getD j []).toArray⟩) := by
  unfold World.cell?
  simp [hB, nameCells, hj]

/-- The world behind code.names. -/
def namesW (w : World) : World := (w.alloc (.cells (nameCells opsNames) 9)).alloc (.cells (nameCells insNames) 9)
theorem namesW_below (w : World) : Below w.heap.size w (namesW w) := ((Below.refl _ _).alloc (Nat.le_refl _) _).alloc (by simp) _
theorem cell_ops (w : World) (j : Nat) (hj : j < 31) : ((w.alloc (.cells (nameCells opsNames) 9)).alloc (.cells (nameCells insNames) 9)).cell? ⟨w.heap.size, j, none⟩ = some (.string ⟨(opsNames.getD j []).toArray⟩) :=
  cell_names _ opsNames j (by simpa [opsNames] using hj) _ ((Below.heap_alloc _ _ _ (by simp)).trans (heap_alloc_new w _))
theorem cell_ins (w : World) (j : Nat) (hj : j < 42) : ((w.alloc (.cells (nameCells opsNames) 9)).alloc (.cells (nameCells insNames) 9)).cell? ⟨w.heap.size + 1, j, none⟩ = some (.string ⟨(insNames.getD j []).toArray⟩) :=
  cell_names _ insNames j (by simpa [insNames] using hj) _ ((show _ = _ by simp).trans (heap_alloc_new (w.alloc (.cells (nameCells opsNames) 9)) _))

set_option maxHeartbeats 400000 in
theorem name_any (n : Nat) (hn : n < 256) (w : World) (ht : Tab w) :
    Calls Tryd.prog 20 #[.int .u8 n] w fun e w' => e = .returned (.string ⟨(nameL n).toArray⟩) ∧ Below w.heap.size w w' := by
  have hb := Lib.hid (namesW_below w)
  by_cases h1 : 1 ≤ n ∧ n ≤ 31
  · have hL := Lib.hid (show nameL n = opsNames.getD (n - 1) [] by unfold nameL; exact if_pos h1)
    obtain ⟨h1, h2⟩ := h1
    have hc := cell_ops w (n - 1) (by omega)
    go_enter Tryd.func20, Tryd.ntmps20
    go_wp2_with fail
    refine (names_any _ ht).mono ?_
    rintro e w' ⟨rfl, rfl⟩
    go_wp2_with fail
    go_ret
    exact ⟨by rw [hL.out]; simp, hb.out⟩
  · by_cases h2 : 40 ≤ n ∧ n ≤ 81
    · have hL := Lib.hid (show nameL n = insNames.getD (n - 40) [] by unfold nameL; rw [if_neg h1]; exact if_pos h2)
      obtain ⟨h2, h3⟩ := h2
      have h1' : 31 < n := by omega
      clear h1
      have hc := cell_ins w (n - 40) (by omega)
      go_enter Tryd.func20, Tryd.ntmps20
      go_wp2_with fail
      refine (names_any _ ht).mono ?_
      rintro e w' ⟨rfl, rfl⟩
      go_wp2_with fail
      go_ret
      exact ⟨by rw [hL.out]; simp, hb.out⟩
    · have hL := Lib.hid (show nameL n = [] by unfold nameL; rw [if_neg h1, if_neg h2])
      go_enter Tryd.func20, Tryd.ntmps20
      go_wp2_with fail
      refine (names_any _ ht).mono ?_
      rintro e w' ⟨rfl, rfl⟩
      go_wp2_with fail
      all_goals first | omega | skip
      all_goals
        go_ret
        exact ⟨by rw [hL.out]; simp, hb.out⟩
end Go.Proofs.YtgcmenjpcgdikaaDoor
