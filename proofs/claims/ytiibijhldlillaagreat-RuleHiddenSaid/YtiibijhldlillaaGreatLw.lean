/- Small laws of the model that the walks of this seat use: a byte slice of one or two cells turned into a string. No condition. -/
import Derived.Test.YtiibijhldlillaaGreatRows
import Derived.WalkKit
import Derived.WalkSpells
import Derived.WalkLawsBesides
namespace Go.Proofs.YtiibijhldlillaaGreat
open Go.RowKit

/-- What a conversion of one byte cell to a string comes to, by what the cell holds. -/
def bytesOf1 (F : Result Value) (w : World) : Option Value → Result Value
  | some (.int .u8 v) => .ok (.string ⟨#[UInt8.ofNat v.toNat]⟩) w
  | _ => F
@[go_sem] theorem bytesOf1_some (F : Result Value) (w : World) (v : Int) : bytesOf1 F w (some (.int .u8 v)) = .ok (.string ⟨#[UInt8.ofNat v.toNat]⟩) w := rfl
def bytesOf2 (F : Result Value) (w : World) : Option Value → Option Value → Result Value
  | some (.int .u8 u), some (.int .u8 v) => .ok (.string ⟨#[UInt8.ofNat u.toNat, UInt8.ofNat v.toNat]⟩) w
  | _, _ => F
@[go_sem] theorem bytesOf2_some (F : Result Value) (w : World) (u v : Int) : bytesOf2 F w (some (.int .u8 u)) (some (.int .u8 v)) = .ok (.string ⟨#[UInt8.ofNat u.toNat, UInt8.ofNat v.toNat]⟩) w := rfl

@[go_sem] theorem conv1 (w : World) (b o c : Nat) : (convert 121 9 (.slice (some ⟨b, o, none⟩) 1 c)).run Tryz.prog w =
    bytesOf1 ((Conv.bytesToString (.slice (some ⟨b, o, none⟩) 1 c)).run Tryz.prog w) w (w.cell? ⟨b, o, none⟩) := by
  rw [run_convert_bytes_string w 121 9 5 _ 1 c Tryz.underlying121 Tryz.underlying5 Tryz.underlying9]
  unfold bytesOf1
  split
  · rename_i v h
    rw [run_bytesToString w _ 1 c [v] (run_loadCells_list w _ [.int .u8 v] (fun j u hj => by
      rcases j with _ | j
      · simp at hj; subst hj; simpa [Addr.add] using h
      · simp at hj))]
    rfl
  · rfl
@[go_sem] theorem conv2 (w : World) (b o c : Nat) : (convert 121 9 (.slice (some ⟨b, o, none⟩) 2 c)).run Tryz.prog w =
    bytesOf2 ((Conv.bytesToString (.slice (some ⟨b, o, none⟩) 2 c)).run Tryz.prog w) w (w.cell? ⟨b, o, none⟩) (w.cell? ⟨b, o + 1, none⟩) := by
  rw [run_convert_bytes_string w 121 9 5 _ 2 c Tryz.underlying121 Tryz.underlying5 Tryz.underlying9]
  unfold bytesOf2
  split
  · rename_i u v h1 h2
    rw [run_bytesToString w _ 2 c [u, v] (run_loadCells_list w _ [.int .u8 u, .int .u8 v] (fun j x hj => by
      rcases j with _ | _ | j
      · simp at hj; subst hj; simpa [Addr.add] using h1
      · simp at hj; subst hj; simpa [Addr.add] using h2
      · simp at hj))]
    rfl
  · rfl

/-- A box of cells that the call made first, behind a contract that ends in Below. -/
theorem box_cell {w w' : World} {cs : Array Value} {t : TypeId} (hb : Below (w.alloc (.cells cs t)).heap.size (w.alloc (.cells cs t)) w') (i : Nat) : w'.cell? ⟨w.heap.size, i, none⟩ = cs[i]? := by
  rw [hb.cell (p := ⟨w.heap.size, i, none⟩) (by simp)]
  unfold World.cell?
  rw [heap_alloc_new]
  simp
theorem box_frozen {w w' : World} {cs : Array Value} {t : TypeId} (hb : Below (w.alloc (.cells cs t)).heap.size (w.alloc (.cells cs t)) w') (i : Nat) : w'.frozen? ⟨w.heap.size, i, none⟩ = false := by
  rw [hb.frozen (p := ⟨w.heap.size, i, none⟩) (by simp)]
  unfold World.frozen?
  rw [heap_alloc_new]
  simp
theorem box_below {w w' : World} {o : Obj} (hb : Below (w.alloc o).heap.size (w.alloc o) w') : Below w.heap.size w w' ∧ w.heap.size < w'.heap.size :=
  ⟨((Below.refl _ _).alloc (Nat.le_refl _) o).trans (hb.mono (by simp)), by have := hb.size; simp at this; omega⟩
theorem box2 {w w' : World} {a b : Value} {t : TypeId} (hb : Below (w.alloc (.cells #[a, b] t)).heap.size (w.alloc (.cells #[a, b] t)) w') :
    w'.cell? ⟨w.heap.size, 0, none⟩ = some a ∧ w'.cell? ⟨w.heap.size, 1, none⟩ = some b ∧ Below w.heap.size w w' ∧ w.heap.size < w'.heap.size :=
  ⟨by rw [box_cell hb]; rfl, by rw [box_cell hb]; rfl, (box_below hb).1, (box_below hb).2⟩

@[go_sem] theorem bytes_app (a b : List UInt8) : (⟨a.toArray⟩ : ByteArray) ++ ⟨b.toArray⟩ = ⟨(a ++ b).toArray⟩ := by
  apply ByteArray.ext
  simp [ByteArray.data_append]
theorem below_drawn {B : Nat} {a w : World} (h : Below B a w) (n : Nat) : Below B a (w.drewN n) := ⟨h.os, h.tape, h.output, h.size, h.block⟩
theorem new_cell (w : World) (cs : Array Value) (t : TypeId) (n i : Nat) : ((w.alloc (.cells cs t)).drewN n).cell? ⟨w.heap.size, i, none⟩ = cs[i]? := by
  show (w.alloc (.cells cs t)).cell? _ = _
  unfold World.cell?
  rw [heap_alloc_new]
  simp
theorem ret1 {a a' : Value} (h : a = a') : Ending.returned a = .returned a' := by rw [h]
theorem ret2 {a a' b b' : Value} (h : a = a') (k : b = b') : Ending.returned (.tuple #[a, b]) = .returned (.tuple #[a', b']) := by rw [h, k]
theorem ret3 {a a' b b' c c' : Value} (h : a = a') (k : b = b') (l : c = c') : Ending.returned (.tuple #[a, b, c]) = .returned (.tuple #[a', b', c']) := by rw [h, k, l]
theorem vbool {p q : Bool} (h : p = q) : Value.bool p = .bool q := by rw [h]
theorem vint {k : IntKind} {p q : Int} (h : p = q) : Value.int k p = .int k q := by rw [h]
theorem vstr {p q : List UInt8} (h : p = q) : Value.string ⟨p.toArray⟩ = .string ⟨q.toArray⟩ := by rw [h]
end Go.Proofs.YtiibijhldlillaaGreat
