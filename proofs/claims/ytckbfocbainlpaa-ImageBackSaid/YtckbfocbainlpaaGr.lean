/- A region that draws its order, whose operations read old memory and whose callees make new memory: one walk of the text's order serves every order. No condition beyond what each theorem says. -/
import Derived.Test.YtckbfocbainlpaaLw
import Derived.Deep.QuietTactic
import Derived.BigQuiet
namespace Go.Proofs.Ytckbfocbainlpaa
open Go.RowKit

structure Gr where
  obs : Array Obj
  count : Nat
instance : Nonempty Gr := ⟨⟨#[], 0⟩⟩

/-- The world with more blocks behind its own, and another count of draws. -/
def growN (w : World) (x : Gr) : World := { w with heap := w.heap ++ x.obs, drawn := x.count }
theorem growN_block (w : World) (x : Gr) (b : Nat) (h : b < w.heap.size) : (growN w x).heap[b]? = w.heap[b]? := by
  unfold growN; simp [Array.getElem?_append, h]
@[go_sem] theorem growN_cell (w : World) (x : Gr) (b o : Nat) (h : b < w.heap.size) : (growN w x).cell? ⟨b, o, none⟩ = w.cell? ⟨b, o, none⟩ :=
  World.cell?_of_block (w := w) (growN_block w x b h)
theorem growN_below (w : World) (x : Gr) : Below w.heap.size w (growN w x) :=
  ⟨rfl, rfl, rfl, by unfold growN; simp, fun k hk => growN_block w x k hk⟩
theorem growN_of_below {w w' : World} (h : Below w.heap.size w w') : ∃ x, w' = growN w x := by
  refine ⟨⟨w'.heap.extract w.heap.size w'.heap.size, w'.drawn⟩, ?_⟩
  have hh : w'.heap = w.heap ++ w'.heap.extract w.heap.size w'.heap.size := by
    apply Array.ext_getElem?
    intro i
    rw [Array.getElem?_append]
    split
    · rename_i hi; exact h.block i hi
    · rename_i hi
      have hs := h.size
      rw [Array.getElem?_extract]
      split
      · congr 1; omega
      · rw [Array.getElem?_eq_none]; omega
  have h1 := h.os
  have h2 := h.tape
  have h3 := h.output
  cases w'; cases w
  simp only [growN] at *
  simp only [World.mk.injEq]
  exact ⟨hh, h2, trivial, h1, h3⟩
theorem wp_region_grow {P : Program} {id : Nat} {Q : Exit → Act → World → Prop} {a : Act} {w : World} {l : List Oper} (hm : P.follows .mixedOrders = true) (hB : Region.lexB .any l.toArray = true)
    (h : wpQuiet P l.toArray (fun w' => ∃ x, w' = growN w x) (fun a' => ∀ w', (∃ x, w' = growN w x) → Q .normal a' w') l a) : (Code.region id l.toArray true).wp P Q a w :=
  wp_region_quiet (C := fun w' => ∃ x, w' = growN w x) hm hB (growN_of_below (by exact ⟨rfl, rfl, rfl, Nat.le_refl _, fun _ _ => rfl⟩)) (by simpa using h)
/-- A callee that makes memory and answers a value that does not hang on where it lies. -/
theorem quiet_grow {P : Program} {f : FuncId} {args : Array Value} {w : World} {x : Gr} {v : Value}
    (h : Calls P f args (growN w x) fun e w' => e = .returned v ∧ Below (growN w x).heap.size (growN w x) w') : Calls P f args (growN w x) fun e w'' => e = .returned v ∧ ∃ y, w'' = growN w y :=
  h.mono fun _ _ ⟨he, hb⟩ => ⟨he, growN_of_below ((growN_below w x).trans (hb.mono (growN_below w x).size))⟩
end Go.Proofs.Ytckbfocbainlpaa
