/- Layer 16 in plain Lean: the kind of the number at a place, by the form and by rows of three. No program. -/
import Derived.Test.YtgcmenjpcgdikaaDoorPo
namespace Go.Proofs.YtgcmenjpcgdikaaDoor

/-- The kind of the number at place k of an op's instruction. -/
def kindL (n k : Nat) : UInt8 := if k < (formL n).length then (formL n).getD k 0 else if (k - (formL n).length) % 3 = 2 then 74 else 87
theorem rep_at (r : Nat) : ∀ k, k < 3 * r → (Lib.repeatL [87, 87, 74] r).getD k 0 = if k % 3 = 2 then 74 else 87 := by
  induction r with
  | zero => intro k hk; omega
  | succ r ih =>
    intro k hk
    have e : Lib.repeatL [87, 87, 74] (r + 1) = [87, 87, 74] ++ Lib.repeatL [87, 87, 74] r := rfl
    rw [e, List.getD_eq_getElem?_getD]
    by_cases h3 : k < 3
    · rw [List.getElem?_append_left (by simpa using h3)]
      have : k = 0 ∨ k = 1 ∨ k = 2 := by omega
      rcases this with rfl | rfl | rfl <;> rfl
    · rw [List.getElem?_append_right (by simp; omega), ← List.getD_eq_getElem?_getD]
      have := ih (k - 3) (by omega)
      simp only [List.length_cons, List.length_nil] at this ⊢
      rw [this, show (k - 3) % 3 = k % 3 by omega]
theorem kind_whole (n r k : Nat) (h : k < (wholeL n r).length) : (wholeL n r).getD k 0 = kindL n k := by
  unfold kindL
  rw [whole_length] at h
  unfold wholeL
  rw [List.getD_eq_getElem?_getD]
  split
  · rename_i hk
    rw [List.getElem?_append_left hk, ← List.getD_eq_getElem?_getD]
  · rename_i hk
    rw [List.getElem?_append_right (by omega), ← List.getD_eq_getElem?_getD, rep_at r _ (by omega)]
theorem kind_letter (n k : Nat) : letter (kindL n k) := by
  unfold kindL
  split
  · rename_i h
    rw [List.getD_eq_getElem?_getD, List.getElem?_eq_getElem h]
    exact form_letters n _ (List.getElem_mem h)
  · split
    · exact .inr (.inr rfl)
    · exact .inr (.inl rfl)
theorem kind_letters (n len k : Nat) (h : rowsOk n len = true) (hk : k < len) : (lettersOf n len).getD k 0 = kindL n k := by
  unfold lettersOf
  exact kind_whole n _ k (by have := letters_length n len h; unfold lettersOf at this; omega)
end Go.Proofs.YtgcmenjpcgdikaaDoor
