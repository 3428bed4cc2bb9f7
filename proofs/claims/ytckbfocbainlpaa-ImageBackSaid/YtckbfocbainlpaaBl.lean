/- strings.Builder's WriteString, WriteByte at this dump, out of the shelf's own laws: the structures that they ask are laid by hand. No condition beyond what each theorem says. -/
import Derived.Test.YtckbfocbainlpaaIa
import Derived.Shelf.Strings.BuilderK
import Derived.Test.YtckbfocbainlpaaShelf
namespace Go.Proofs.Ytckbfocbainlpaa
open Go.RowKit Go.Shelf
set_option maxRecDepth 100000

def bldRen : Go.Shelf.Ren := ⟨fun | 166 => 22 | 167 => 20 | 240 => 40 | 276 => 58 | n => n, fun | 0 => 0 | 3 => 3 | 4 => 4 | 5 => 5 | 9 => 9 | 20 => 20 | 37 => 51 | 70 => 57 | 72 => 59 | 75 => 61 | 80 => 66 | 164 => 113 | n => n, fun n => n⟩
theorem lays166 : Lays.n166 Try.prog bldRen := { mixed := by kernel_rfl, f166 := Try.func22.trans (congrArg some (by kernel_rfl)), f240 := Try.func40.trans (congrArg some (by kernel_rfl)), f276 := Try.func58.trans (congrArg some (by kernel_rfl)), t0 := Try.underlying0, a0 := Try.isAgg0, z0 := Try.sizeOf0, v0 := Try.zeroValue0, t3 := Try.underlying3, a3 := Try.isAgg3, z3 := Try.sizeOf3, v3 := Try.zeroValue3, t4 := Try.underlying4, a4 := Try.isAgg4, z4 := Try.sizeOf4, v4 := Try.zeroValue4, t9 := Try.underlying9, a9 := Try.isAgg9, z9 := Try.sizeOf9, v9 := Try.zeroValue9, t20 := Try.underlying20, a20 := Try.isAgg20, z20 := Try.sizeOf20, v20 := Try.zeroValue20, t37 := Try.underlying51, a37 := Try.isAgg51, z37 := Try.sizeOf51, v37 := Try.zeroValue51, t70 := Try.underlying57, a70 := Try.isAgg57, z70 := Try.sizeOf57, v70 := Try.zeroValue57, t72 := Try.underlying59, a72 := Try.isAgg59, z72 := Try.sizeOf59, v72 := Try.zeroValue59, t75 := Try.underlying61, a75 := Try.isAgg61, z75 := Try.sizeOf61, v75 := Try.zeroValue61, t164 := Try.underlying113, a164 := Try.isAgg113, z164 := Try.sizeOf113, v164 := Try.zeroValue113 }
theorem lays167 : Lays.n167 Try.prog bldRen := { mixed := by kernel_rfl, f167 := Try.func20.trans (congrArg some (by kernel_rfl)), f240 := Try.func40.trans (congrArg some (by kernel_rfl)), f276 := Try.func58.trans (congrArg some (by kernel_rfl)), t0 := Try.underlying0, a0 := Try.isAgg0, z0 := Try.sizeOf0, v0 := Try.zeroValue0, t4 := Try.underlying4, a4 := Try.isAgg4, z4 := Try.sizeOf4, v4 := Try.zeroValue4, t5 := Try.underlying5, a5 := Try.isAgg5, z5 := Try.sizeOf5, v5 := Try.zeroValue5, t9 := Try.underlying9, a9 := Try.isAgg9, z9 := Try.sizeOf9, v9 := Try.zeroValue9, t20 := Try.underlying20, a20 := Try.isAgg20, z20 := Try.sizeOf20, v20 := Try.zeroValue20, t37 := Try.underlying51, a37 := Try.isAgg51, z37 := Try.sizeOf51, v37 := Try.zeroValue51, t70 := Try.underlying57, a70 := Try.isAgg57, z70 := Try.sizeOf57, v70 := Try.zeroValue57, t72 := Try.underlying59, a72 := Try.isAgg59, z72 := Try.sizeOf59, v72 := Try.zeroValue59, t75 := Try.underlying61, a75 := Try.isAgg61, z75 := Try.sizeOf61, v75 := Try.zeroValue61, t164 := Try.underlying113, a164 := Try.isAgg113, z164 := Try.sizeOf113, v164 := Try.zeroValue113 }
theorem bldExtra : Builder.Extra Try.prog bldRen := {
  sizeBuilder := by kernel_rfl
  liesBuilder := by kernel_rfl
  t5 := Try.underlying5
  a5 := Try.isAgg5
  z5 := Try.sizeOf5
  v5 := Try.zeroValue5
  infoByte := by kernel_rfl
  cellsByte := by kernel_rfl
  sizeByte := by kernel_rfl
  neB5 := by decide }
theorem lt_of_get {α : Type} {a : Array α} {i : Nat} {x : α} (h : a[i]? = some x) : i < a.size := by
  rcases Nat.lt_or_ge i a.size with h1 | h1
  · exact h1
  · rw [Array.getElem?_eq_none h1] at h; cases h
theorem own_later {w w' : World} {B : Nat} {e : TypeId} {size : Nat} {v : Value} {n : Nat} {xs : List Value} (h : w.ownsRow B e size v n xs) (hb : Below w.heap.size w w') : w'.ownsRow B e size v n xs := by
  refine ⟨h.1, ?_⟩
  rcases h.2 with hn | ⟨g, cap, cur, rfl, hB, hgg, rest⟩
  · exact .inl hn
  · exact .inr ⟨g, cap, cur, rfl, hB, (hb.block g (lt_of_get hgg)).trans hgg, rest⟩
theorem ownF_later {w w' : World} {B : Nat} {e : TypeId} {size : Nat} {v : Value} {n : Nat} {xs : List Value} (h : w.ownsRowF B e size v n xs) (hb : Below w.heap.size w w') : w'.ownsRowF B e size v n xs := by
  refine ⟨h.1, ?_⟩
  rcases h.2 with hn | ⟨g, cap, cur, fz, rfl, hB, hgg, rest⟩
  · exact .inl hn
  · exact .inr ⟨g, cap, cur, fz, rfl, hB, (hb.block g (lt_of_get hgg)).trans hgg, rest⟩
theorem builderAt_later {T e : TypeId} {B b : Nat} {p : Value} {bs : List Value} {w w' : World} (h : Lib.BuilderAtF T e B b p bs w) (hb : Below w.heap.size w w') : Lib.BuilderAtF T e B b p bs w' := by
  obtain ⟨h1, v, h2, h3, h4⟩ := h
  exact ⟨h1, v, (hb.block b (lt_of_get h2)).trans h2, ownF_later h3 hb, h4⟩
/-- A builder at block b, all of whose memory lies from b on, that holds these bytes. -/
def Bld (b : Nat) (l : List UInt8) (w : World) : Prop := Lib.IsBuilderF 59 5 b b (Lib.byteCells l) w
theorem Bld.later {b : Nat} {l : List UInt8} {w w' : World} (h : Bld b l w) (hb : Below w.heap.size w w') : Bld b l w' := by
  rcases h with h | h
  · exact .inl (builderAt_later h hb)
  · exact .inr (builderAt_later h hb)
theorem Bld.lt {b : Nat} {l : List UInt8} {w : World} (h : Bld b l w) : b < w.heap.size := by
  rcases h with ⟨_, v, h2, _⟩ | ⟨_, v, h2, _⟩ <;> exact lt_of_get h2
theorem Bld.new (w : World) : Bld w.heap.size [] (w.alloc (.cells #[.pointer none, .slice none 0 0] 59)) := by
  rcases Lib.fresh_isBuilder 59 5 w with h | h
  · exact .inl (Lib.BuilderAtF.of h)
  · exact .inr (Lib.BuilderAtF.of h)
/-- What a write to the builder at b leaves: what is older than b, and whatever is no row of bytes. -/
structure Wrote (b : Nat) (w w' : World) : Prop where
  below : Below b w w'
  others : Lib.OthersKept 5 (some b) w w'
/-- A box that is no row of bytes. -/
def Box (k : Nat) (cs : Array Value) (T : TypeId) (w : World) : Prop := w.heap[k]? = some (.cells cs T (0, 0)) ∧ T ≠ 5
theorem Box.cell {k : Nat} {cs : Array Value} {T : TypeId} {w : World} (h : Box k cs T w) (i : Nat) : w.cell? ⟨k, i, none⟩ = cs[i]? := by unfold World.cell?; rw [h.1]; simp
theorem Box.frozen {k : Nat} {cs : Array Value} {T : TypeId} {w : World} (h : Box k cs T w) (i : Nat) : w.frozen? ⟨k, i, none⟩ = false := by unfold World.frozen?; rw [h.1]; simp
theorem Box.lt {k : Nat} {cs : Array Value} {T : TypeId} {w : World} (h : Box k cs T w) : k < w.heap.size := lt_of_get h.1
theorem Box.later {k : Nat} {cs : Array Value} {T : TypeId} {w w' : World} {B : Nat} (h : Box k cs T w) (hb : Below B w w') (hk : k < B) : Box k cs T w' := ⟨(hb.block k hk).trans h.1, h.2⟩
theorem Box.grow {k : Nat} {cs : Array Value} {T : TypeId} {w w' : World} (h : Box k cs T w) (hb : Below w.heap.size w w') : Box k cs T w' := h.later hb h.lt
theorem Box.wrote {k : Nat} {cs : Array Value} {T : TypeId} {b : Nat} {w w' : World} (h : Box k cs T w) (hb : Wrote b w w') (hk : k ≠ b) : Box k cs T w' :=
  ⟨hb.others k _ h.1 (fun e => hk (Option.some.inj e)) (fun c fz e => h.2 (by injection e)), h.2⟩
theorem Box.new (w : World) (cs : Array Value) (T : TypeId) (hT : T ≠ 5) : Box w.heap.size cs T (w.alloc (.cells cs T)) := ⟨heap_alloc_new w _, hT⟩
theorem Bld.writes {b : Nat} {l : List UInt8} (t : List UInt8) {w : World} (h : Bld b l w) (hlen : l.length + t.length ≤ 140737488355328) :
    Calls Try.prog 22 #[.pointer (some ⟨b, 0, none⟩), .string ⟨t.toArray⟩] w fun e w' => e = .returned (.tuple #[.int .i64 t.length, .nilIface]) ∧ Bld b (l ++ t) w' ∧ Wrote b w w' := by
  refine (Any.Builder_WriteString_k lays166 bldExtra b b _ ⟨t.toArray⟩ w h (by simpa [Lib.byteCells_length, ByteArray.size] using hlen) (Nat.le_of_lt h.lt)).mono ?_
  rintro e w' ⟨rfl, h1, h2, h3⟩
  refine ⟨rfl, ?_, h2, h3⟩
  unfold Bld
  have e : Lib.byteCells (l ++ t) = Lib.byteCells l ++ Lib.strCells ⟨t.toArray⟩ := by simp [Lib.byteCells, Lib.strCells]
  rw [e]
  exact .inr h1
theorem Bld.byte {b : Nat} {l : List UInt8} (c : UInt8) {w : World} (h : Bld b l w) (hlen : l.length + 1 ≤ 140737488355328) :
    Calls Try.prog 20 #[.pointer (some ⟨b, 0, none⟩), .int .u8 (c.toNat : Int)] w fun e w' => e = .returned .nilIface ∧ Bld b (l ++ [c]) w' ∧ Wrote b w w' := by
  refine (Any.Builder_WriteByte_k lays167 bldExtra b b _ (c.toNat : Int) w h (by simpa [Lib.byteCells_length] using hlen) (Nat.le_of_lt h.lt)).mono ?_
  rintro e w' ⟨rfl, h1, h2, h3⟩
  refine ⟨rfl, ?_, h2, h3⟩
  unfold Bld
  have e : Lib.byteCells (l ++ [c]) = Lib.byteCells l ++ [.int .u8 (c.toNat : Int)] := by simp [Lib.byteCells]
  rw [e]
  exact .inr h1
theorem Bld.string {b : Nat} {l : List UInt8} {w : World} (h : Bld b l w) :
    Calls Try.prog 23 #[.pointer (some ⟨b, 0, none⟩)] w fun e w' => e = .returned (.string ⟨l.toArray⟩) ∧ Below b w w' := (Try.Builder_String_any_f b b l w h (Nat.le_of_lt h.lt)).mono fun _ _ h => ⟨h.1, h.2.2⟩
end Go.Proofs.Ytckbfocbainlpaa
