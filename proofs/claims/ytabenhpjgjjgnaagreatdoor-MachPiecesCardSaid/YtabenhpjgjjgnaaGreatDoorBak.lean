/- Layer 16, bundled. Layer 16, bundled. Condition: what lies in memory can lie there; what each theorem says. -/
import Derived.Test.YtabenhpjgjjgnaaGreatDoorBaa
import Derived.Test.YtabenhpjgjjgnaaGreatDoorBaj
import Derived.Test.YtabenhpjgjjgnaaGreatDoorBag
import Derived.Lib.Hide
import Derived.Maps.OwnOps
import Derived.Deep.QuietTactic
import Derived.BigQuiet
import Derived.Lib.OthersKept
import Derived.Lib.ConvBytes
/- Layer 16, bundled. -/
section
namespace Go.Proofs.YtabenhpjgjjgnaaGreatDoor.K16
open Go.RowKit
set_option maxRecDepth 100000
def Tab (w : World) : Prop := ∀ c : Nat, c < 256 → w.cell? ⟨0, c, none⟩ = some (.int .u8 (if Lib.isSp (UInt8.ofNat c) then 1 else 0))
theorem Tab.pos {w : World} (h : Tab w) : 0 < w.heap.size := by
 have h0 := h 0 (by omega)
 rcases Nat.lt_or_ge 0 w.heap.size with hlt | hge
 ·exact hlt
 ·unfold World.cell? at h0; simp [Array.getElem?_eq_none hge] at h0
theorem Tab.below {w w' : World} {B : Nat} (h : Tab w) (hb : Below B w w') (hB : 0 < B) : Tab w' := fun c hc => (hb.cell (p := ⟨0, c, none⟩) hB).trans (h c hc)
theorem Tab.later {w w' : World} (h : Tab w) (hb : Below w.heap.size w w') : Tab w' := h.below hb h.pos
theorem Tab.alloc {w : World} (h : Tab w) (o : Obj) : Tab (w.alloc o) := h.later ((Below.refl _ _).alloc (Nat.le_refl _) o)
theorem Tab.drew {w : World} (h : Tab w) : Tab w.drew := h
theorem fields_any (s : ByteArray) (w : World) (hs : s.size < 4294967281) (hascii : ∀ (j : Nat) b, s.data.toList[j]? = some b → b.toNat < 128) (ht : Tab w) :
 Calls Tryz.prog 250 #[.string s] w fun e w' =>
  e = .returned (.slice (some ⟨w.heap.size, 0, none⟩) (Lib.fields s.data.toList).length (Lib.fields s.data.toList).length) ∧ w' = w.alloc (.cells ((Lib.fields s.data.toList).map fun l => Value.string ⟨l.toArray⟩).toArray 9) :=
 Any.strings_Fields_core Tryz.lays157 (by kernel_rfl) s w hs hascii ht
def nameCells (l : List (List UInt8)) : Array Value := (l.map fun x => Value.string ⟨x.toArray⟩).toArray
theorem of_all_lt (l : List UInt8) (h : (l.all fun b => b.toNat < 128) = true) (j : Nat) (b : UInt8) (hj : l[j]? = some b) : b.toNat < 128 := by
 have := List.all_eq_true.1 h b (List.mem_of_getElem? hj)
 simpa using this
theorem fields_ops (w : World) (ht : Tab w) :
 Calls Tryz.prog 250 #[.string ⟨#[105, 97, 100, 100, 32, 105, 115, 117, 98, 32, 105, 109, 117, 108, 32, 105, 100, 105, 118, 32, 105, 109, 111, 100, 32, 105, 110, 101, 103, 32, 105, 97, 98, 115, 32, 99, 97, 100, 100, 32, 99, 115, 117, 98, 32, 99, 109, 117, 108, 32, 99, 100, 105, 118, 32, 99, 109, 111, 100, 32, 101, 113, 32, 110, 101, 32, 105, 108, 116, 32, 105, 108, 101, 32, 105, 103, 116, 32, 105, 103, 101, 32, 99, 108, 116, 32, 99, 108, 101, 32, 99, 103, 116, 32, 99, 103, 101, 32, 110, 111, 116, 32, 111, 114, 32, 97, 110, 100, 110, 32, 97, 110, 100, 32, 120, 111, 114, 32, 105, 110, 32, 115, 117, 98, 32, 111, 110, 101, 32, 114, 111, 119]⟩] w fun e w' =>
  e = .returned (.slice (some ⟨w.heap.size, 0, none⟩) 31 31) ∧ w' = w.alloc (.cells (nameCells opsNames) 9) := by
 have hf : Lib.fields ([105, 97, 100, 100, 32, 105, 115, 117, 98, 32, 105, 109, 117, 108, 32, 105, 100, 105, 118, 32, 105, 109, 111, 100, 32, 105, 110, 101, 103, 32, 105, 97, 98, 115, 32, 99, 97, 100, 100, 32, 99, 115, 117, 98, 32, 99, 109, 117, 108, 32, 99, 100, 105, 118, 32, 99, 109, 111, 100, 32, 101, 113, 32, 110, 101, 32, 105, 108, 116, 32, 105, 108, 101, 32, 105, 103, 116, 32, 105, 103, 101, 32, 99, 108, 116, 32, 99, 108, 101, 32, 99, 103, 116, 32, 99, 103, 101, 32, 110, 111, 116, 32, 111, 114, 32, 97, 110, 100, 110, 32, 97, 110, 100, 32, 120, 111, 114, 32, 105, 110, 32, 115, 117, 98, 32, 111, 110, 101, 32, 114, 111, 119] : List UInt8) = opsNames := by decide +kernel
 have h := fields_any ⟨#[105, 97, 100, 100, 32, 105, 115, 117, 98, 32, 105, 109, 117, 108, 32, 105, 100, 105, 118, 32, 105, 109, 111, 100, 32, 105, 110, 101, 103, 32, 105, 97, 98, 115, 32, 99, 97, 100, 100, 32, 99, 115, 117, 98, 32, 99, 109, 117, 108, 32, 99, 100, 105, 118, 32, 99, 109, 111, 100, 32, 101, 113, 32, 110, 101, 32, 105, 108, 116, 32, 105, 108, 101, 32, 105, 103, 116, 32, 105, 103, 101, 32, 99, 108, 116, 32, 99, 108, 101, 32, 99, 103, 116, 32, 99, 103, 101, 32, 110, 111, 116, 32, 111, 114, 32, 97, 110, 100, 110, 32, 97, 110, 100, 32, 120, 111, 114, 32, 105, 110, 32, 115, 117, 98, 32, 111, 110, 101, 32, 114, 111, 119]⟩ w (by decide +kernel) (fun j b hj => of_all_lt _ (by decide +kernel) j b hj) ht
 rw [show Lib.fields (⟨#[105, 97, 100, 100, 32, 105, 115, 117, 98, 32, 105, 109, 117, 108, 32, 105, 100, 105, 118, 32, 105, 109, 111, 100, 32, 105, 110, 101, 103, 32, 105, 97, 98, 115, 32, 99, 97, 100, 100, 32, 99, 115, 117, 98, 32, 99, 109, 117, 108, 32, 99, 100, 105, 118, 32, 99, 109, 111, 100, 32, 101, 113, 32, 110, 101, 32, 105, 108, 116, 32, 105, 108, 101, 32, 105, 103, 116, 32, 105, 103, 101, 32, 99, 108, 116, 32, 99, 108, 101, 32, 99, 103, 116, 32, 99, 103, 101, 32, 110, 111, 116, 32, 111, 114, 32, 97, 110, 100, 110, 32, 97, 110, 100, 32, 120, 111, 114, 32, 105, 110, 32, 115, 117, 98, 32, 111, 110, 101, 32, 114, 111, 119]⟩ : ByteArray).data.toList = opsNames from hf] at h
 exact h
theorem fields_ins (w : World) (ht : Tab w) :
 Calls Tryz.prog 250 #[.string ⟨#[108, 105, 116, 32, 108, 103, 32, 115, 103, 32, 97, 103, 32, 108, 108, 32, 115, 108, 32, 97, 108, 32, 108, 105, 32, 115, 105, 32, 97, 100, 100, 32, 112, 116, 114, 32, 105, 120, 32, 105, 120, 111, 112, 32, 114, 97, 110, 103, 101, 32, 99, 111, 110, 118, 32, 106, 109, 112, 32, 106, 122, 32, 106, 110, 122, 32, 106, 122, 107, 32, 106, 110, 107, 32, 99, 97, 115, 101, 32, 109, 97, 114, 107, 32, 99, 97, 108, 108, 32, 99, 97, 108, 108, 120, 32, 99, 97, 108, 108, 102, 32, 114, 101, 116, 32, 114, 101, 116, 102, 32, 112, 114, 111, 99, 32, 100, 117, 112, 32, 100, 114, 111, 112, 32, 115, 119, 97, 112, 32, 109, 111, 118, 101, 32, 110, 101, 119, 32, 102, 114, 101, 101, 32, 114, 101, 97, 100, 32, 119, 114, 105, 116, 101, 32, 119, 114, 115, 32, 119, 114, 105, 32, 119, 114, 99, 32, 119, 114, 108, 110, 32, 116, 114, 97, 112, 32, 100, 117, 112, 120]⟩] w fun e w' =>
  e = .returned (.slice (some ⟨w.heap.size, 0, none⟩) 42 42) ∧ w' = w.alloc (.cells (nameCells insNames) 9) := by
 have hf : Lib.fields ([108, 105, 116, 32, 108, 103, 32, 115, 103, 32, 97, 103, 32, 108, 108, 32, 115, 108, 32, 97, 108, 32, 108, 105, 32, 115, 105, 32, 97, 100, 100, 32, 112, 116, 114, 32, 105, 120, 32, 105, 120, 111, 112, 32, 114, 97, 110, 103, 101, 32, 99, 111, 110, 118, 32, 106, 109, 112, 32, 106, 122, 32, 106, 110, 122, 32, 106, 122, 107, 32, 106, 110, 107, 32, 99, 97, 115, 101, 32, 109, 97, 114, 107, 32, 99, 97, 108, 108, 32, 99, 97, 108, 108, 120, 32, 99, 97, 108, 108, 102, 32, 114, 101, 116, 32, 114, 101, 116, 102, 32, 112, 114, 111, 99, 32, 100, 117, 112, 32, 100, 114, 111, 112, 32, 115, 119, 97, 112, 32, 109, 111, 118, 101, 32, 110, 101, 119, 32, 102, 114, 101, 101, 32, 114, 101, 97, 100, 32, 119, 114, 105, 116, 101, 32, 119, 114, 115, 32, 119, 114, 105, 32, 119, 114, 99, 32, 119, 114, 108, 110, 32, 116, 114, 97, 112, 32, 100, 117, 112, 120] : List UInt8) = insNames := by decide +kernel
 have h := fields_any ⟨#[108, 105, 116, 32, 108, 103, 32, 115, 103, 32, 97, 103, 32, 108, 108, 32, 115, 108, 32, 97, 108, 32, 108, 105, 32, 115, 105, 32, 97, 100, 100, 32, 112, 116, 114, 32, 105, 120, 32, 105, 120, 111, 112, 32, 114, 97, 110, 103, 101, 32, 99, 111, 110, 118, 32, 106, 109, 112, 32, 106, 122, 32, 106, 110, 122, 32, 106, 122, 107, 32, 106, 110, 107, 32, 99, 97, 115, 101, 32, 109, 97, 114, 107, 32, 99, 97, 108, 108, 32, 99, 97, 108, 108, 120, 32, 99, 97, 108, 108, 102, 32, 114, 101, 116, 32, 114, 101, 116, 102, 32, 112, 114, 111, 99, 32, 100, 117, 112, 32, 100, 114, 111, 112, 32, 115, 119, 97, 112, 32, 109, 111, 118, 101, 32, 110, 101, 119, 32, 102, 114, 101, 101, 32, 114, 101, 97, 100, 32, 119, 114, 105, 116, 101, 32, 119, 114, 115, 32, 119, 114, 105, 32, 119, 114, 99, 32, 119, 114, 108, 110, 32, 116, 114, 97, 112, 32, 100, 117, 112, 120]⟩ w (by decide +kernel) (fun j b hj => of_all_lt _ (by decide +kernel) j b hj) ht
 rw [show Lib.fields (⟨#[108, 105, 116, 32, 108, 103, 32, 115, 103, 32, 97, 103, 32, 108, 108, 32, 115, 108, 32, 97, 108, 32, 108, 105, 32, 115, 105, 32, 97, 100, 100, 32, 112, 116, 114, 32, 105, 120, 32, 105, 120, 111, 112, 32, 114, 97, 110, 103, 101, 32, 99, 111, 110, 118, 32, 106, 109, 112, 32, 106, 122, 32, 106, 110, 122, 32, 106, 122, 107, 32, 106, 110, 107, 32, 99, 97, 115, 101, 32, 109, 97, 114, 107, 32, 99, 97, 108, 108, 32, 99, 97, 108, 108, 120, 32, 99, 97, 108, 108, 102, 32, 114, 101, 116, 32, 114, 101, 116, 102, 32, 112, 114, 111, 99, 32, 100, 117, 112, 32, 100, 114, 111, 112, 32, 115, 119, 97, 112, 32, 109, 111, 118, 101, 32, 110, 101, 119, 32, 102, 114, 101, 101, 32, 114, 101, 97, 100, 32, 119, 114, 105, 116, 101, 32, 119, 114, 115, 32, 119, 114, 105, 32, 119, 114, 99, 32, 119, 114, 108, 110, 32, 116, 114, 97, 112, 32, 100, 117, 112, 120]⟩ : ByteArray).data.toList = insNames from hf] at h
 exact h
set_option maxHeartbeats 400000 in
theorem names_any (w : World) (ht : Tab w) :
 Calls Tryz.prog 208 #[] w fun e w' => e = .returned (.tuple #[.slice (some ⟨w.heap.size, 0, none⟩) 31 31, .slice (some ⟨w.heap.size + 1, 0, none⟩) 42 42]) ∧
  w' = (w.alloc (.cells (nameCells opsNames) 9)).alloc (.cells (nameCells insNames) 9) := by
 go_enter Tryz.func208, Tryz.ntmps208
 go_wp2_with fail
 refine (fields_ops _ ht).mono ?_
 rintro e w' ⟨rfl, rfl⟩
 go_wp2_with fail
 refine (fields_ins _ (ht.alloc _)).mono ?_
 rintro e w' ⟨rfl, rfl⟩
 go_wp2_with fail
 go_ret2
 exact ⟨by simp, rfl⟩
theorem cell_names (w : World) (l : List (List UInt8)) (j : Nat) (hj : j < l.length) (B : Nat) (hB : w.heap[B]? = some (.cells (nameCells l) 9)) : w.cell? ⟨B, j, none⟩ = some (.string ⟨(l.getD j []).toArray⟩) := by
 unfold World.cell?
 simp [hB, nameCells, hj]
def namesW (w : World) : World := (w.alloc (.cells (nameCells opsNames) 9)).alloc (.cells (nameCells insNames) 9)
theorem namesW_below (w : World) : Below w.heap.size w (namesW w) := ((Below.refl _ _).alloc (Nat.le_refl _) _).alloc (by simp) _
theorem cell_ops (w : World) (j : Nat) (hj : j < 31) : ((w.alloc (.cells (nameCells opsNames) 9)).alloc (.cells (nameCells insNames) 9)).cell? ⟨w.heap.size, j, none⟩ = some (.string ⟨(opsNames.getD j []).toArray⟩) :=
 cell_names _ opsNames j (by simpa [opsNames] using hj) _ ((Below.heap_alloc _ _ _ (by simp)).trans (heap_alloc_new w _))
theorem cell_ins (w : World) (j : Nat) (hj : j < 42) : ((w.alloc (.cells (nameCells opsNames) 9)).alloc (.cells (nameCells insNames) 9)).cell? ⟨w.heap.size + 1, j, none⟩ = some (.string ⟨(insNames.getD j []).toArray⟩) :=
 cell_names _ insNames j (by simpa [insNames] using hj) _ ((show _ = _ by simp).trans (heap_alloc_new (w.alloc (.cells (nameCells opsNames) 9)) _))
set_option maxHeartbeats 400000 in
theorem name_any (n : Nat) (hn : n < 256) (w : World) (ht : Tab w) :
 Calls Tryz.prog 125 #[.int .u8 n] w fun e w' => e = .returned (.string ⟨(nameL n).toArray⟩) ∧ Below w.heap.size w w' := by
 have hb := Lib.hid (namesW_below w)
 by_cases h1 : 1 ≤ n ∧ n ≤ 31
 ·have hL := Lib.hid (show nameL n = opsNames.getD (n - 1) [] by unfold nameL; exact if_pos h1)
  obtain ⟨h1, h2⟩ := h1
  have hc := cell_ops w (n - 1) (by omega)
  go_enter Tryz.func125, Tryz.ntmps125
  go_wp2_with fail
  refine (names_any _ ht).mono ?_
  rintro e w' ⟨rfl, rfl⟩
  go_wp2_with fail
  go_ret
  exact ⟨by rw [hL.out]; simp, hb.out⟩
 ·by_cases h2 : 40 ≤ n ∧ n ≤ 81
  ·have hL := Lib.hid (show nameL n = insNames.getD (n - 40) [] by unfold nameL; rw [if_neg h1]; exact if_pos h2)
   obtain ⟨h2, h3⟩ := h2
   have h1' : 31 < n := by omega
   clear h1
   have hc := cell_ins w (n - 40) (by omega)
   go_enter Tryz.func125, Tryz.ntmps125
   go_wp2_with fail
   refine (names_any _ ht).mono ?_
   rintro e w' ⟨rfl, rfl⟩
   go_wp2_with fail
   go_ret
   exact ⟨by rw [hL.out]; simp, hb.out⟩
  ·have hL := Lib.hid (show nameL n = [] by unfold nameL; rw [if_neg h1, if_neg h2])
   go_enter Tryz.func125, Tryz.ntmps125
   go_wp2_with fail
   refine (names_any _ ht).mono ?_
   rintro e w' ⟨rfl, rfl⟩
   go_wp2_with fail
   all_goals first | omega | skip
   all_goals
    go_ret
    exact ⟨by rw [hL.out]; simp, hb.out⟩
end Go.Proofs.YtabenhpjgjjgnaaGreatDoor.K16
end
section
namespace Go.Proofs.YtabenhpjgjjgnaaGreatDoor.K16
open Go.RowKit
set_option maxRecDepth 100000
theorem empty_beq (n : Nat) (h : n < 256) : (!(nameL n).isEmpty) = thereB n := by rw [name_there n h]; simp
theorem formL_nil (n : Nat) (h40 : ((n : Int) == 40) = false) (h47 : ((n : Int) == 47) = false) (h48 : ((n : Int) == 48) = false) (h49 : ((n : Int) == 49) = false) (h52 : ((n : Int) == 52) = false) (h71 : ((n : Int) == 71) = false) (h72 : ((n : Int) == 72) = false) (h41 : ((n : Int) == 41) = false) (h42 : ((n : Int) == 42) = false) (h43 : ((n : Int) == 43) = false) (h44 : ((n : Int) == 44) = false) (h45 : ((n : Int) == 45) = false) (h46 : ((n : Int) == 46) = false) (h62 : ((n : Int) == 62) = false) (h63 : ((n : Int) == 63) = false) (h67 : ((n : Int) == 67) = false) (h51 : ((n : Int) == 51) = false) (h53 : ((n : Int) == 53) = false) (h55 : ((n : Int) == 55) = false) (h56 : ((n : Int) == 56) = false) (h57 : ((n : Int) == 57) = false) (h58 : ((n : Int) == 58) = false) (h59 : ((n : Int) == 59) = false) (h64 : ((n : Int) == 64) = false) (h80 : ((n : Int) == 80) = false) (h60 : ((n : Int) == 60) = false) : formL n = [] := by
 simp only [beq_eq_false_iff_ne, ne_eq] at h40 h47 h48 h49 h52 h71 h72 h41 h42 h43 h44 h45 h46 h62 h63 h67 h51 h53 h55 h56 h57 h58 h59 h64 h80 h60
 unfold formL wOps bwOps jOps
 simp only [List.mem_cons, List.not_mem_nil, or_false]
 repeat rw [if_neg (by omega)]
set_option maxHeartbeats 1000000 in
theorem form_any (n : Nat) (hn : n < 256) (w : World) (ht : Tab w) :
 Calls Tryz.prog 209 #[.int .u8 n] w fun e w' => e = .returned (.tuple #[.string ⟨(formL n).toArray⟩, .bool (thereB n)]) ∧ Below w.heap.size w w' := by
 go_enter Tryz.func209, Tryz.ntmps209
 go_wp2_with fail
 all_goals first
  | (rename_i h
     have h' := congrArg Int.toNat (eq_of_beq h)
     simp only [Int.toNat_natCast, Int.reduceToNat] at h'
     subst h'
     go_ret2
     exact ⟨rfl, Below.refl _ _⟩)
  | skip
 have hL := Lib.hid (formL_nil n (by assumption) (by assumption) (by assumption) (by assumption) (by assumption) (by assumption) (by assumption) (by assumption) (by assumption) (by assumption) (by assumption) (by assumption) (by assumption) (by assumption) (by assumption) (by assumption) (by assumption) (by assumption) (by assumption) (by assumption) (by assumption) (by assumption) (by assumption) (by assumption) (by assumption) (by assumption))
 refine (name_any n hn _ ht).mono ?_
 rintro e w' ⟨rfl, hb⟩
 have hT := Lib.hid (empty_beq n hn)
 go_wp2_with fail
 go_ret2
 exact ⟨by rw [hL.out, ← hT.out]; simp, hb⟩
end Go.Proofs.YtabenhpjgjjgnaaGreatDoor.K16
end
section
namespace Go.Proofs.YtabenhpjgjjgnaaGreatDoor.K16
open Go.RowKit
set_option maxRecDepth 100000
end Go.Proofs.YtabenhpjgjjgnaaGreatDoor.K16
end
section
namespace Go.Proofs.YtabenhpjgjjgnaaGreatDoor.K16
open Go.RowKit
set_option maxRecDepth 100000
theorem run_checkKey_i32 (b : Bool) (k : Int) (w : World) : (Instr.checkKey b 10000 21 (.int .i32 k)).run Tryz.prog w = .ok () w := by
 exact MapKept.run_checkKey Tryz.underlying21 (by trivial) b 9999
theorem run_findKey_i32 (k : Int) (es : List MapEntry) (r : Option (Nat × Value)) (h : Instr.findNow (.int .i32) (.int .i32 k) es 0 = some r) (w : World) : (Instr.findKey 21 (.int .i32 k) es).run Tryz.prog w = .ok r w := by
 simp [Instr.findKey, run_underlying Tryz.underlying21, h]
theorem push_set_last {α : Type} (a : Array α) (x y : α) : (a.push x).setIfInBounds a.size y = a.push y := by
 apply Array.ext'
 simp
theorem run_insert_i32 (w : World) (es : Array MapEntry) (c : Nat) (k : Int) (v : Value) (h : Instr.findNow (.int .i32) (.int .i32 k) es.toList 0 = some none) :
 (Instr.mapUpdate 186 (.map (some w.heap.size)) (.int .i32 k) v).run Tryz.prog (w.alloc (.map es c)) = .ok () (w.alloc (.map (es.push ⟨.int .i32 k, v, c⟩) (c + 1))) := by
 have hb := heap_alloc_new w (.map es c)
 simp [Instr.mapUpdate, run_underlying Tryz.underlying186, MapKept.run_getObj_map hb, run_checkKey_i32, run_findKey_i32 k _ _ h, MapKept.run_setObj_map _ hb, Result.andThen]
 show ({ w with heap := (w.heap.push (.map es c)).setIfInBounds w.heap.size _ } : World) = { w with heap := w.heap.push _ }
 rw [push_set_last]
def numEntries : Array MapEntry := #[⟨.int .i32 66, .agg #[.int .i64 0, .int .i64 255, .int .i64 1], 0⟩, ⟨.int .i32 87, .agg #[.int .i64 0, .int .i64 65535, .int .i64 2], 1⟩, ⟨.int .i32 74, .agg #[.int .i64 (-32768), .int .i64 32767, .int .i64 2], 2⟩]
set_option maxHeartbeats 400000 in
theorem numbers_any (w : World) :
 Calls Tryz.prog 127 #[] w fun e w' => e = .returned (.map (some w.heap.size)) ∧ w' = w.alloc (.map numEntries 3) := by
 have hmm := @run_makeMap Tryz.prog
 have h1 := run_insert_i32 w #[] 0 66 (.agg #[.int .i64 0, .int .i64 255, .int .i64 1]) rfl
 have h2 := run_insert_i32 w #[⟨.int .i32 66, .agg #[.int .i64 0, .int .i64 255, .int .i64 1], 0⟩] 1 87 (.agg #[.int .i64 0, .int .i64 65535, .int .i64 2]) rfl
 have h3 := run_insert_i32 w #[⟨.int .i32 66, .agg #[.int .i64 0, .int .i64 255, .int .i64 1], 0⟩, ⟨.int .i32 87, .agg #[.int .i64 0, .int .i64 65535, .int .i64 2], 1⟩] 2 74 (.agg #[.int .i64 (-32768), .int .i64 32767, .int .i64 2]) rfl
 simp only [List.push_toArray, List.cons_append, List.nil_append] at h1 h2 h3
 go_enter Tryz.func127, Tryz.ntmps127
 go_wp2_with fail
 go_ret
 exact ⟨rfl, rfl⟩
theorem run_look_num (w : World) (r : Nat) (h : w.heap[r]? = some (.map numEntries 3)) (k : Int) (i : Nat) (v : Value) (hf : Instr.findNow (.int .i32) (.int .i32 k) numEntries.toList 0 = some (some (i, v))) :
 (Instr.lookup 186 (.map (some r)) (.int .i32 k) false).run Tryz.prog w = .ok v w := by
 simp [Instr.lookup, run_underlying Tryz.underlying186, MapKept.run_getObj_map h, run_checkKey_i32, run_findKey_i32 k _ _ hf, Result.andThen]
theorem look_B (w : World) (r : Nat) (h : w.heap[r]? = some (.map numEntries 3)) : (Instr.lookup 186 (.map (some r)) (.int .i32 66) false).run Tryz.prog w = .ok (.agg #[.int .i64 0, .int .i64 255, .int .i64 1]) w := run_look_num w r h 66 0 _ rfl
theorem look_W (w : World) (r : Nat) (h : w.heap[r]? = some (.map numEntries 3)) : (Instr.lookup 186 (.map (some r)) (.int .i32 87) false).run Tryz.prog w = .ok (.agg #[.int .i64 0, .int .i64 65535, .int .i64 2]) w := run_look_num w r h 87 1 _ rfl
theorem look_J (w : World) (r : Nat) (h : w.heap[r]? = some (.map numEntries 3)) : (Instr.lookup 186 (.map (some r)) (.int .i32 74) false).run Tryz.prog w = .ok (.agg #[.int .i64 (-32768), .int .i64 32767, .int .i64 2]) w := run_look_num w r h 74 2 _ rfl
end Go.Proofs.YtabenhpjgjjgnaaGreatDoor.K16
end
section
namespace Go.Proofs.YtabenhpjgjjgnaaGreatDoor.K16
open Go.RowKit Go.Shelf
set_option maxRecDepth 100000
theorem repeat_any (r : Nat) (hr : r ≤ 46912496118442) (w : World) :
 Calls Tryz.prog 210 #[.string ⟨#[87, 87, 74]⟩, .int .i64 r] w fun e w' => e = .returned (.string ⟨(Lib.repeatL [87, 87, 74] r).toArray⟩) ∧ Below w.heap.size w w' :=
 Tryz.strings_Repeat ⟨#[87, 87, 74]⟩ r w (by omega) (by show 3 * r ≤ _; omega)
theorem repeat_short (r : Nat) (hr : r ≤ 46912496118442) : (Lib.repeatL [87, 87, 74] r).length ≤ 140737488355326 := by
 rw [Lib.repeatL_length]; simp; omega
set_option maxHeartbeats 400000 in
theorem whole_any (n : Nat) (hn : n < 256) (r : Nat) (hr : r ≤ 46912496118442) (w : World) (ht : Tab w) :
 Calls Tryz.prog 128 #[.int .u8 n, .int .i64 r] w fun e w' => e = .returned (.string ⟨(wholeL n r).toArray⟩) ∧ Below w.heap.size w w' := by
 have h3 := form_short n
 have h4 := repeat_short r hr
 go_enter Tryz.func128, Tryz.ntmps128
 go_wp2_with fail
 refine (form_any n hn _ ht).mono ?_
 rintro e w1 ⟨rfl, hb⟩
 go_wp2_with fail
 refine (repeat_any r hr _).mono ?_
 rintro e w2 ⟨rfl, hb2⟩
 go_wp2_with fail
 go_ret
 exact ⟨by simp [wholeL], hb.trans (hb2.mono hb.size)⟩
end Go.Proofs.YtabenhpjgjjgnaaGreatDoor.K16
end
section
namespace Go.Proofs.YtabenhpjgjjgnaaGreatDoor.K16
open Go.RowKit
set_option maxRecDepth 100000
end Go.Proofs.YtabenhpjgjjgnaaGreatDoor.K16
end
/- Layer 16, bundled. -/
section
namespace Go.Proofs.YtabenhpjgjjgnaaGreatDoor.K16
open Go.RowKit
set_option maxRecDepth 100000
def Ints (w : World) (A : Option Addr) (xs : List Int) : Prop :=
 xs = [] ∨ ∃ b off, A = some ⟨b, off, none⟩ ∧ b < w.heap.size ∧ ∀ j, j < xs.length → w.cell? ⟨b, off + j, none⟩ = some (.int .i64 (xs.getD j 0))
theorem Ints.later {w w' : World} {A : Option Addr} {xs : List Int} {B : Nat} (h : Ints w A xs) (hb : Below B w w') (hB : w.heap.size ≤ B) : Ints w' A xs := by
 rcases h with h | ⟨b, off, e, hlt, hc⟩
 ·exact .inl h
 ·exact .inr ⟨b, off, e, Nat.lt_of_lt_of_le hlt hb.size, fun j hj => (hb.cell (p := ⟨b, off + j, none⟩) (Nat.lt_of_lt_of_le hlt hB)).trans (hc j hj)⟩
theorem Ints.at_ {w : World} {A : Option Addr} {xs : List Int} (h : Ints w A xs) {j : Nat} (hj : j < xs.length) :
 ∃ b off, A = some ⟨b, off, none⟩ ∧ b < w.heap.size ∧ w.cell? ⟨b, off + j, none⟩ = some (.int .i64 (xs.getD j 0)) := by
 rcases h with h | ⟨b, off, e, hlt, hc⟩
 ·subst h; simp at hj
 ·exact ⟨b, off, e, hlt, hc j hj⟩
theorem look_any (c : UInt8) (hc : letter c) (w : World) (r : Nat) (h : w.heap[r]? = some (.map numEntries 3)) :
 (Instr.lookup 186 (.map (some r)) (.int .i32 (c.toNat : Int)) false).run Tryz.prog w = .ok (.agg #[.int .i64 (lowK c), .int .i64 (highK c), .int .i64 (sizeK c)]) w := by
 rcases hc with rfl | rfl | rfl
 ·exact look_B w r h
 ·exact look_W w r h
 ·exact look_J w r h
def OneEnd (w : World) (r : List UInt8 × Int) (e : Ending) (w' : World) : Prop := e = .returned (.tuple #[.string ⟨r.1.toArray⟩, .int .i64 r.2]) ∧ Below w.heap.size w w'
end Go.Proofs.YtabenhpjgjjgnaaGreatDoor.K16
end
section
namespace Go.Proofs.YtabenhpjgjjgnaaGreatDoor.K16
open Go.RowKit
set_option maxRecDepth 100000
theorem lt_of_get {α : Type} {a : Array α} {i : Nat} {x : α} (h : a[i]? = some x) : i < a.size := by
 rcases Nat.lt_or_ge i a.size with h1 | h1
 ·exact h1
 ·rw [Array.getElem?_eq_none h1] at h; cases h
end Go.Proofs.YtabenhpjgjjgnaaGreatDoor.K16
end
section
namespace Go.Proofs.YtabenhpjgjjgnaaGreatDoor.K16
open Go.RowKit
set_option maxRecDepth 100000
end Go.Proofs.YtabenhpjgjjgnaaGreatDoor.K16
end
section
namespace Go.Proofs.YtabenhpjgjjgnaaGreatDoor.K16
open Go.RowKit
set_option maxRecDepth 100000
def InsAt (w : World) (b o : Nat) (i : InsL) : Prop :=
 ∃ A cap, w.cell? ⟨b, o, none⟩ = some (.int .u8 i.1) ∧ w.cell? ⟨b, o + 1, none⟩ = some (.slice A i.2.length cap) ∧ Ints w A i.2 ∧ i.1 < 256 ∧ i.2.length ≤ 17592186044416
def Inss (w : World) (L : Option Addr) (l : List InsL) : Prop :=
 l = [] ∨ ∃ b off, L = some ⟨b, off, none⟩ ∧ b < w.heap.size ∧ ∀ j, j < l.length → InsAt w b (off + j * 2) (l.getD j (0, []))
theorem InsAt.later {w w' : World} {b o : Nat} {i : InsL} {B : Nat} (h : InsAt w b o i) (hb : Below B w w') (hB : w.heap.size ≤ B) (hlt : b < w.heap.size) : InsAt w' b o i := by
 obtain ⟨A, cap, h1, h2, h3, h4, h5⟩ := h
 exact ⟨A, cap, (hb.cell (p := ⟨b, o, none⟩) (Nat.lt_of_lt_of_le hlt hB)).trans h1, (hb.cell (p := ⟨b, o + 1, none⟩) (Nat.lt_of_lt_of_le hlt hB)).trans h2, h3.later hb hB, h4, h5⟩
theorem Inss.later {w w' : World} {L : Option Addr} {l : List InsL} {B : Nat} (h : Inss w L l) (hb : Below B w w') (hB : w.heap.size ≤ B) : Inss w' L l := by
 rcases h with h | ⟨b, off, e, hlt, hc⟩
 ·exact .inl h
 ·exact .inr ⟨b, off, e, Nat.lt_of_lt_of_le hlt hb.size, fun j hj => (hc j hj).later hb hB hlt⟩
theorem Inss.at_ {w : World} {L : Option Addr} {l : List InsL} (h : Inss w L l) {j : Nat} (hj : j < l.length) :
 ∃ b off, L = some ⟨b, off, none⟩ ∧ b < w.heap.size ∧ InsAt w b (off + j * 2) (l.getD j (0, [])) := by
 rcases h with h | ⟨b, off, e, hlt, hc⟩
 ·subst h; simp at hj
 ·exact ⟨b, off, e, hlt, hc j hj⟩
theorem own_later {w w' : World} {B : Nat} {e : TypeId} {size : Nat} {v : Value} {n : Nat} {xs : List Value} (h : w.ownsRow B e size v n xs) (hb : Below w.heap.size w w') : w'.ownsRow B e size v n xs := by
 refine ⟨h.1, ?_⟩
 rcases h.2 with hn | ⟨g, cap, cur, rfl, hB, hgg, rest⟩
 ·exact .inl hn
 ·exact .inr ⟨g, cap, cur, rfl, hB, (hb.block g (lt_of_get hgg)).trans hgg, rest⟩
end Go.Proofs.YtabenhpjgjjgnaaGreatDoor.K16
end
section
namespace Go.Proofs.YtabenhpjgjjgnaaGreatDoor.K16
open Go.RowKit
set_option maxRecDepth 100000
theorem conv_bytes (X : World) (s : ByteArray) : ∃ capn wb, (convert 9 61 (.string s)).run Tryz.prog X = .ok (.slice (some ⟨X.heap.size, 0, none⟩) s.size capn) wb ∧
 Below X.heap.size X wb ∧ wb.heap.size = X.heap.size + 1 ∧ ∀ j, j < s.size → wb.cell? ⟨X.heap.size, j, none⟩ = some (.int .u8 (s.data.toList.getD j 0).toNat) :=
 ⟨_, _, Lib.run_convert_string_bytes X 9 61 5 s Tryz.underlying9 Tryz.underlying61 Tryz.underlying5,
  ⟨rfl, rfl, rfl, by rw [Lib.bytesWorld_size]; omega, fun k hk => Lib.bytesWorld_at_old X _ s k hk⟩, Lib.bytesWorld_size _ _ _, fun j hj => Lib.bytesWorld_cell X _ s j hj⟩
set_option maxHeartbeats 600000 in
theorem read_bad (lo hi sz : Int) (bb sb nb : Nat) (s : List UInt8) (nx : Nat) (bad : Bool) (w : World) (h : bad = true ∨ (s.length : Int) - nx < sz) (hs : s.length ≤ 4294967296) (hn : nx ≤ s.length)
 (c0 : w.cell? ⟨bb, 0, none⟩ = some (.bool bad)) (c1 : w.cell? ⟨sb, 0, none⟩ = some (.string ⟨s.toArray⟩)) (c2 : w.cell? ⟨nb, 0, none⟩ = some (.int .i64 nx)) (f0 : w.frozen? ⟨bb, 0, none⟩ = false)
 (hb0 : bb < w.heap.size) (hb1 : sb < w.heap.size) (hb2 : nb < w.heap.size) :
 Calls Tryz.prog 126 #[.agg #[.int .i64 lo, .int .i64 hi, .int .i64 sz], .pointer (some ⟨bb, 0, none⟩), .pointer (some ⟨sb, 0, none⟩), .pointer (some ⟨nb, 0, none⟩)] w fun e w' =>
  e = .returned (.int .i64 0) ∧ Below w.heap.size (w.setCell ⟨bb, 0, none⟩ (.bool true)) w' := by
 have hz : (w.setCell ⟨bb, 0, none⟩ (.bool true)).heap.size = w.heap.size := by simp
 have HZ := Lib.hid hz
 clear hz
 by_cases hbad : bad = true
 ·subst hbad
  go_enter Tryz.func126, Tryz.ntmps126
  go_wp2_with fail
  go_ret
  exact ⟨rfl, (Below.refl _ _).alloc (by rw [HZ.out]; exact Nat.le_refl _) _⟩
 ·have hf : bad = false := by simpa using hbad
  subst hf
  have hd : decide ((s.length : Int) - nx < sz) = true := by
   rcases h with h | h
   ·cases h
   ·simpa using h
  clear h hbad
  go_enter Tryz.func126, Tryz.ntmps126
  go_wp2_with fail
  go_ret
  exact ⟨rfl, (Below.refl _ _).alloc (by rw [HZ.out]; exact Nat.le_refl _) _⟩
theorem set_same {c : Array Value} {o : Nat} {v : Value} (h : c[o]? = some v) : c.setIfInBounds o v = c := by
 apply Array.ext_getElem?
 intro j
 rw [Array.getElem?_setIfInBounds]
 split
 ·rename_i e
  subst e
  rw [if_pos (lt_of_get h), h]
 ·rfl
theorem setCell_same {w : World} {a : Addr} {v : Value} (h : w.cell? a = some v) : w.setCell a v = w := by
 have hh : (w.setCell a v).heap = w.heap := by
  unfold World.setCell
  simp only
  apply Array.ext_getElem?
  intro i
  rw [Array.getElem?_modify]
  split
  ·rename_i hi
   subst hi
   unfold World.cell? at h
   cases hb : w.heap[a.block]? with
   | none => rfl
   | some o =>
     rw [hb] at h
     cases o with
     | cells c t fz =>
       simp only [Option.map_some]
       by_cases hs : a.spot.isSome = true
       ·simp [hs]
       ·simp only [hs] at h ⊢
        simp only [if_false, Bool.false_eq_true] at h ⊢
        rw [set_same h]
     | _ => rfl
  ·rfl
 show ({ w with heap := (w.setCell a v).heap } : World) = w
 rw [hh]
theorem below_set {B : Nat} {w w' : World} (h : Below B w w') (p : Addr) (v : Value) (_hp : p.block < w.heap.size) : Below B (w.setCell p v) (w'.setCell p v) := by
 refine ⟨h.os, h.tape, h.output, by simpa using h.size, fun k hk => ?_⟩
 unfold World.setCell
 simp only [Array.getElem?_modify]
 rw [h.block k hk]
theorem or_i64 (a b : Nat) (ha : a < 4294967296) (hb : b < 4294967296) : bits .or .i64 (a : Int) (b : Int) = ((a ||| b : Nat) : Int) := by
 have hx : a ||| b < 2 ^ 32 := Nat.or_lt_two_pow (by omega) (by omega)
 show IntKind.i64.wrap ((BitVec.ofInt 64 (a : Int) ||| BitVec.ofInt 64 (b : Int)).toNat : Int) = _
 rw [BitVec.toNat_or, ofInt_u64 a (by omega), ofInt_u64 b (by omega)]
 exact IntWalk.i64_in _ (by omega)
theorem or_zero_i64 (b : Nat) (hb : b < 256) : bits .or .i64 0 (b : Int) = (b : Int) := by
 have := or_i64 0 b (by omega) (by omega)
 simpa using this
theorem or_two_i64 (a b : Nat) (ha : a < 256) (hb : b < 256) : bits .or .i64 ((a : Int) * 256) (b : Int) = (a : Int) * 256 + b := by
 have h := or_i64 (a * 256) b (by omega) (by omega)
 have e : a * 256 ||| b = a * 256 + b := by
  have := Nat.shiftLeft_add_eq_or_of_lt (i := 8) (b := b) (by omega) a
  simpa [Nat.shiftLeft_eq] using this.symm
 rw [e] at h
 have e2 : ((a * 256 : Nat) : Int) = (a : Int) * 256 := by omega
 rw [e2] at h
 rw [h]
 omega
theorem ext_at (s : List UInt8) (nx sz j : Nat) (hj : j < sz) : ((⟨s.toArray⟩ : ByteArray).extract nx (nx + sz)).data.toList.getD j 0 = s.getD (nx + j) 0 := by
 rw [Lib.extract_data]
 simp [List.getD_eq_getElem?_getD, hj]
def ReadEnd (w : World) (nb nx : Nat) (v : Int) (e : Ending) (w' : World) : Prop := e = .returned (.int .i64 v) ∧ Below w.heap.size (w.setCell ⟨nb, 0, none⟩ (.int .i64 nx)) w'
def beTo (a b : Int) : Nat → Int
 | 0 => 0
 | 1 => a
 | _ => a * 256 + b
set_option maxHeartbeats 600000 in
theorem read_ok (lo hi : Int) (sz : Nat) (hsz : sz = 1 ∨ sz = 2) (bb sb nb : Nat) (s : List UInt8) (nx : Nat) (w : World) (hs : s.length ≤ 4294967296) (hn : nx + sz ≤ s.length) (_hh : 0 ≤ hi) (_hh2 : hi ≤ 65535)
 (c0 : w.cell? ⟨bb, 0, none⟩ = some (.bool false)) (c1 : w.cell? ⟨sb, 0, none⟩ = some (.string ⟨s.toArray⟩)) (c2 : w.cell? ⟨nb, 0, none⟩ = some (.int .i64 nx)) (f0 : w.frozen? ⟨bb, 0, none⟩ = false) (f2 : w.frozen? ⟨nb, 0, none⟩ = false)
 (hb0 : bb < w.heap.size) (hb1 : sb < w.heap.size) (hb2 : nb < w.heap.size) (x0 x1 : Nat) (hx0 : (s.getD nx 0).toNat = x0) (hx1 : (s.getD (nx + 1) 0).toNat = x1) (v : Int) (hval : v = if hi < beTo x0 x1 sz then beTo x0 x1 sz - 65536 else beTo x0 x1 sz) :
 Calls Tryz.prog 126 #[.agg #[.int .i64 lo, .int .i64 hi, .int .i64 sz], .pointer (some ⟨bb, 0, none⟩), .pointer (some ⟨sb, 0, none⟩), .pointer (some ⟨nb, 0, none⟩)] w (ReadEnd w nb (nx + sz) v) := by
 have HVAL := Lib.hid hval
 have b0 := (s.getD nx 0).toNat_lt
 have b1 := (s.getD (nx + 1) 0).toNat_lt
 rw [hx0] at b0
 rw [hx1] at b1
 have HX0 := Lib.hid hx0
 have HX1 := Lib.hid hx1
 clear hval hx0 hx1
 have hv := setCell_same c0
 have hd : decide ((s.length : Int) - nx < sz) = false := by simp; omega
 obtain ⟨capn, wb, hconv, hbw, hzw, hcells⟩ := conv_bytes (w.alloc (.cells #[.int .i64 lo, .int .i64 hi, .int .i64 sz] 184)) ((⟨s.toArray⟩ : ByteArray).extract nx (nx + sz))
 have HBW := Lib.hid hbw
 have HZW := Lib.hid hzw
 have HC := Lib.hid hcells
 clear hbw hzw hcells
 go_enter Tryz.func126, Tryz.ntmps126
 go_wp2_with fail
 have hx : ((⟨s.toArray⟩ : ByteArray).extract nx (nx + sz)).size = sz := by simp [ByteArray.size]; omega
 have HX := Lib.hid hx
 clear hx
 have e0 : wb.cell? ⟨w.heap.size + 1, 0, none⟩ = some (.int .u8 x0) := by
  have := HC.out 0 (by rw [HX.out]; omega)
  rw [ext_at s nx sz 0 (by omega)] at this
  rw [← HX0.out]
  simpa using this
 have e1 : sz = 2 → wb.cell? ⟨w.heap.size + 1, 1, none⟩ = some (.int .u8 x1) := by
  intro h2
  have := HC.out 1 (by rw [HX.out]; omega)
  rw [ext_at s nx sz 1 (by omega)] at this
  rw [← HX1.out]
  simpa using this
 have e2 := box_cell HBW.out 0
 have e3 := box_cell HBW.out 1
 have e4 := box_cell HBW.out 2
 obtain ⟨hbw2, hz2⟩ := box_below HBW.out
 have e5 : wb.cell? ⟨nb, 0, none⟩ = some (.int .i64 nx) := (hbw2.cell (p := ⟨nb, 0, none⟩) hb2).trans c2
 have e6 : wb.frozen? ⟨nb, 0, none⟩ = false := (hbw2.frozen (p := ⟨nb, 0, none⟩) hb2).trans f2
 simp at e2 e3 e4
 have HB2 := Lib.hid hbw2
 have HV := Lib.hid hv
 clear HC HX HBW HZW hconv hbw2 hv c0 c1 c2 f0 f2
 go_loopg [5, 28] sz (fun g n i wr => ∃ k : Nat, k + g = sz ∧ i = .int .i64 k ∧ n = .int .i64 (beTo x0 x1 k) ∧ wr = wb)
 case atStart => exact ⟨0, by omega, rfl, rfl, rfl⟩
 case round =>
  obtain ⟨k, hk, rfl, rfl, rfl⟩ := hrel
  by_cases hlt : k < sz
  ·have hkI : (k : Int) < (sz : Int) := by omega
   have hk2 : k = 0 ∨ k = 1 := by omega
   rcases hk2 with rfl | rfl
   ·rw [show beTo (x0 : Int) (x1 : Int) 0 = 0 from rfl]
    clear e1 e5 e6 e2 e3 e4
    go_wp2_with fail
    go_roundg (gk - 1)
    case measure => omega
    case rel => exact ⟨1, by omega, rfl, by rw [or_zero_i64 x0 (by omega)]; rfl, rfl⟩
   ·rw [show beTo (x0 : Int) (x1 : Int) 1 = x0 from rfl]
    have e1 := e1 (by omega)
    have d1 : decide ((1 : Int) < (sz : Int)) = true := by simp; omega
    clear e0 e5 e6 e2 e3 e4
    go_wp2_with fail
    go_roundg (gk - 1)
    case measure => omega
    case rel => exact ⟨2, by omega, rfl, by rw [or_two_i64 x0 x1 (by omega) (by omega)]; rfl, rfl⟩
  ·obtain rfl : k = sz := by omega
   have hB : 0 ≤ beTo x0 x1 k ∧ beTo x0 x1 k ≤ 65535 := by
    rcases hsz with rfl | rfl
    ·show (0 : Int) ≤ x0 ∧ (x0 : Int) ≤ 65535; omega
    ·show (0 : Int) ≤ (x0 : Int) * 256 + x1 ∧ (x0 : Int) * 256 + x1 ≤ 65535; omega
   obtain ⟨hB1, hB2⟩ := hB
   have HSZ := Lib.hid hsz
   clear e0 e1 hlt hk hsz
   generalize beTo (x0 : Int) (x1 : Int) k = y at *
   by_cases hy : hi < y
   ·have d1 : decide (hi < y) = true := by simpa using hy
    go_wp2_with fail
    go_ret
    exact ⟨by rw [HVAL.out, if_pos hy]; rfl, below_set HB2.out _ _ hb2⟩
   ·have d1 : decide (hi < y) = false := by simpa using hy
    go_wp2_with fail
    go_ret
    exact ⟨by rw [HVAL.out, if_neg (by omega)]; rfl, below_set HB2.out _ _ hb2⟩
end Go.Proofs.YtabenhpjgjjgnaaGreatDoor.K16
end
