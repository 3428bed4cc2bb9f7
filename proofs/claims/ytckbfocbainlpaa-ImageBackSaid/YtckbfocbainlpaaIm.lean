/- A map of the call's own that counts what was seen: look-up, update. Condition: the key's type is an integer or string one. -/
import Derived.Test.YtckbfocbainlpaaIa
import Derived.Maps.OwnOps
namespace Go.Proofs.Ytckbfocbainlpaa
open Go.RowKit

def seenEs {α : Type} (key : α → Value) (xs : List α) : Array MapEntry := (xs.zipIdx.map fun p => ⟨key p.1, .int .i64 1, p.2⟩).toArray
/-- At block r lies a map that has seen just these. -/
def SeenAt {α : Type} (w : World) (r : Nat) (key : α → Value) (xs : List α) : Prop := w.heap[r]? = some (.map (seenEs key xs) xs.length)
/-- The world whose block r is another one. -/
def putObj (w : World) (r : Nat) (o : Obj) : World := { w with heap := w.heap.setIfInBounds r o }
theorem putObj_size (w : World) (r : Nat) (o : Obj) : (putObj w r o).heap.size = w.heap.size := by unfold putObj; simp
theorem putObj_at {w : World} {r : Nat} {o : Obj} (h : r < w.heap.size) : (putObj w r o).heap[r]? = some o := by unfold putObj; simp [h]
theorem putObj_other {w : World} {r k : Nat} {o : Obj} (h : k ≠ r) : (putObj w r o).heap[k]? = w.heap[k]? := by
  unfold putObj; simp only; rw [Array.getElem?_setIfInBounds, if_neg (Ne.symm h)]
theorem putObj_below {B : Nat} {w0 w : World} {r : Nat} {o : Obj} (h : Below B w0 w) (hr : B ≤ r) : Below B w0 (putObj w r o) :=
  ⟨h.os, h.tape, h.output, by rw [putObj_size]; exact h.size, fun k hk => (putObj_other (by omega)).trans (h.block k hk)⟩
/-- .. which has seen these. -/
def putSeen {α : Type} (w : World) (r : Nat) (key : α → Value) (xs : List α) : World := putObj w r (.map (seenEs key xs) xs.length)
theorem putSeen_below {α : Type} {B : Nat} {w0 w : World} {r : Nat} {key : α → Value} {xs : List α} (h : Below B w0 w) (hr : B ≤ r) : Below B w0 (putSeen w r key xs) := putObj_below h hr
theorem putSeen_size {α : Type} (w : World) (r : Nat) (key : α → Value) (xs : List α) : (putSeen w r key xs).heap.size = w.heap.size := putObj_size _ _ _
theorem seenEs_snoc {α : Type} (key : α → Value) (xs : List α) (x : α) : seenEs key (xs ++ [x]) = (seenEs key xs).push ⟨key x, .int .i64 1, xs.length⟩ := by
  unfold seenEs; simp [List.zipIdx_append]
theorem SeenAt.later {α : Type} {w w' : World} {r : Nat} {key : α → Value} {xs : List α} {B : Nat} (h : SeenAt w r key xs) (hb : Below B w w') (hr : r < B) : SeenAt w' r key xs := (hb.block r hr).trans h
theorem SeenAt.new {α : Type} (w : World) (key : α → Value) : SeenAt (w.alloc (.map #[] 0)) w.heap.size key [] := heap_alloc_new w _

section
variable {α : Type} {P : Program} {mty kt et : TypeId} {d : TypeDesc} {key : α → Value}
theorem seen_find (hk : ∀ a, MapKept.IsKey d (key a)) (hinj : ∀ a b, key a = key b → a = b) (xs : List α) (x : α) :
    (x ∉ xs ∧ Instr.findNow d (key x) (seenEs key xs).toList 0 = some none) ∨ (x ∈ xs ∧ ∃ j, Instr.findNow d (key x) (seenEs key xs).toList 0 = some (some (j, .int .i64 1))) := by
  rcases MapKept.findNow_spec (hk x) (seenEs key xs).toList 0 (by
    intro e he
    simp only [seenEs, List.mem_map] at he
    obtain ⟨p, _, rfl⟩ := he
    exact hk _) with ⟨h1, h2⟩ | ⟨j, e, h1, h2, h3⟩
  · refine .inl ⟨fun hx => ?_, h1⟩
    obtain ⟨i, hi, rfl⟩ := List.getElem_of_mem hx
    refine h2 ⟨key xs[i], .int .i64 1, i⟩ ?_ rfl
    simp only [seenEs, List.mem_map]
    exact ⟨(xs[i], i), by rw [List.mem_zipIdx_iff_getElem?]; simp [hi], rfl⟩
  · have he : e ∈ (seenEs key xs).toList := List.mem_of_getElem? h2
    simp only [seenEs, List.mem_map] at he
    obtain ⟨p, hp, rfl⟩ := he
    refine .inr ⟨?_, 0 + j, h1⟩
    rw [← hinj _ _ h3]
    have := List.mem_zipIdx_iff_getElem?.1 hp
    exact List.mem_of_getElem? this
theorem seen_look [DecidableEq α] (hm : P.underlying mty = some (.map kt et)) (hd : P.underlying kt = some d) (hk : ∀ a, MapKept.IsKey d (key a)) (hinj : ∀ a b, key a = key b → a = b) (w : World) (hz : (zeroValue et).run P w = .ok (.int .i64 0) w) (r : Nat) (xs : List α) (h : SeenAt w r key xs) (x : α) :
    (Instr.lookup mty (.map (some r)) (key x) false).run P w = .ok (.int .i64 (if x ∈ xs then 1 else 0)) w := by
  rcases seen_find hk hinj xs x with ⟨hx, hf⟩ | ⟨hx, j, hf⟩
  · rw [if_neg hx]
    simp [Instr.lookup, run_underlying hm, MapKept.run_getObj_map h, MapKept.run_checkKey hd (hk x), MapKept.run_findKey hd hf, Result.andThen, hz]
  · rw [if_pos hx]
    simp [Instr.lookup, run_underlying hm, MapKept.run_getObj_map h, MapKept.run_checkKey hd (hk x), MapKept.run_findKey hd hf, Result.andThen]
theorem seen_put (hm : P.underlying mty = some (.map kt et)) (hd : P.underlying kt = some d) (hk : ∀ a, MapKept.IsKey d (key a)) (hinj : ∀ a b, key a = key b → a = b) (w : World) (r : Nat) (xs : List α) (h : SeenAt w r key xs) (x : α) (hx : x ∉ xs) :
    (Instr.mapUpdate mty (.map (some r)) (key x) (.int .i64 1)).run P w = .ok () (putSeen w r key (xs ++ [x])) := by
  rcases seen_find hk hinj xs x with ⟨_, hf⟩ | ⟨hx2, _⟩
  · simp [Instr.mapUpdate, run_underlying hm, MapKept.run_getObj_map h, MapKept.run_checkKey hd (hk x), MapKept.run_findKey hd hf, MapKept.run_setObj_map _ h, Result.andThen, seenEs_snoc, putSeen, putObj]
  · exact absurd hx2 hx
theorem seen_put_at {w : World} {r : Nat} {xs : List α} (h : SeenAt w r key xs) (x : α) : SeenAt (putSeen w r key (xs ++ [x])) r key (xs ++ [x]) :=
  putObj_at (by unfold SeenAt at h; exact (Array.getElem?_eq_some_iff.1 h).1)
end

def intKey (x : Int) : Value := .int .i64 x
def strKey (x : List UInt8) : Value := .string ⟨x.toArray⟩
theorem zero_int (w : World) : (zeroValue 3).run Try.prog w = .ok (.int .i64 0) w := by
  have h : (Try.prog.info? 3).map (fun i => i.zero) = some (some (.int .i64 0)) := by kernel_rfl
  cases hi : Try.prog.info? 3 with
  | none => rw [hi] at h; cases h
  | some i =>
    rw [hi] at h
    have hz : i.zero = some (.int .i64 0) := by simpa using h
    simp [zeroValue, typeInfo, hi, hz]
theorem look_int (w : World) (r : Nat) (xs : List Int) (h : SeenAt w r intKey xs) (x : Int) : (Instr.lookup 102 (.map (some r)) (.int .i64 x) false).run Try.prog w = .ok (.int .i64 (if x ∈ xs then 1 else 0)) w :=
  seen_look (key := intKey) Try.underlying102 Try.underlying3 (fun _ => rfl) (fun a b h => by unfold intKey at h; injection h) w (zero_int w) r xs h x
theorem put_int (w : World) (r : Nat) (xs : List Int) (h : SeenAt w r intKey xs) (x : Int) (hx : x ∉ xs) : (Instr.mapUpdate 102 (.map (some r)) (.int .i64 x) (.int .i64 1)).run Try.prog w = .ok () (putSeen w r intKey (xs ++ [x])) :=
  seen_put (key := intKey) Try.underlying102 Try.underlying3 (fun _ => rfl) (fun a b h => by unfold intKey at h; injection h) w r xs h x hx
theorem strKey_inj (a b : List UInt8) (h : strKey a = strKey b) : a = b := by
  unfold strKey at h; injection h with h; injection h with h; simpa using h
theorem look_str (w : World) (r : Nat) (xs : List (List UInt8)) (h : SeenAt w r strKey xs) (x : List UInt8) : (Instr.lookup 73 (.map (some r)) (.string ⟨x.toArray⟩) false).run Try.prog w = .ok (.int .i64 (if x ∈ xs then 1 else 0)) w := by
  have h0 := seen_look (key := strKey) Try.underlying73 Try.underlying9 (fun _ => trivial) strKey_inj w (zero_int w) r xs h x
  by_cases hx : x ∈ xs
  · rw [if_pos hx] at h0 ⊢; exact h0
  · rw [if_neg hx] at h0 ⊢; exact h0
theorem put_str (w : World) (r : Nat) (xs : List (List UInt8)) (h : SeenAt w r strKey xs) (x : List UInt8) (hx : x ∉ xs) : (Instr.mapUpdate 73 (.map (some r)) (.string ⟨x.toArray⟩) (.int .i64 1)).run Try.prog w = .ok () (putSeen w r strKey (xs ++ [x])) :=
  seen_put (key := strKey) Try.underlying73 Try.underlying9 (fun _ => trivial) strKey_inj w r xs h x hx
end Go.Proofs.Ytckbfocbainlpaa
