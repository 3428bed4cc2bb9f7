/- Layer 16 in plain Lean: what the bytes of a row of instructions are. No program. -/
import Derived.Test.YtgcmenjpcgdikaaDoorPl
namespace Go.Proofs.YtgcmenjpcgdikaaDoor

/-- An instruction: its op, its numbers. -/
abbrev InsL := Nat × List Int
/-- The first error of a row of instructions; 0: none. -/
def errOf : List InsL → Int
  | [] => 0
  | i :: l => if (oneL i.1 i.2).2 ≠ 0 then (oneL i.1 i.2).2 else errOf l
def bytesOf (l : List InsL) : List UInt8 := l.flatMap fun i => (oneL i.1 i.2).1
def encodeL (l : List InsL) : List UInt8 × Int := if errOf l ≠ 0 then ([], errOf l) else if 65535 < (bytesOf l).length then ([], 5) else (bytesOf l, 0)

theorem oneL_short (n : Nat) (args : List Int) : (oneL n args).1.length ≤ 2308 := by
  unfold oneL
  by_cases h1 : thereB n = false
  · rw [if_pos h1]; simp
  · rw [if_neg h1]
    by_cases h2 : rowsOk n args.length = false
    · rw [if_pos h2]; simp
    · rw [if_neg h2]
      by_cases h3 : okTo n args args.length = false
      · rw [if_pos h3]; simp
      · rw [if_neg h3]
        by_cases h4 : 256 ≤ rowsOf n args.length
        · rw [if_pos h4]; simp
        · rw [if_neg h4]
          have := few_args n args.length (by simpa using h2) (by omega)
          have := encTo_short n args args.length
          simp only; omega
theorem bytesOf_short (l : List InsL) : (bytesOf l).length ≤ 2308 * l.length := by
  induction l with
  | nil => simp [bytesOf]
  | cons i l ih =>
    have h := oneL_short i.1 i.2
    unfold bytesOf at *
    simp only [List.flatMap_cons, List.length_append, List.length_cons]
    omega
theorem bytesOf_snoc (l : List InsL) (k : Nat) (h : k < l.length) : bytesOf (l.take (k + 1)) = bytesOf (l.take k) ++ (oneL (l.getD k (0, [])).1 (l.getD k (0, [])).2).1 := by
  unfold bytesOf
  rw [List.take_succ_eq_append_getElem h, List.flatMap_append]
  simp [List.getD_eq_getElem?_getD, List.getElem?_eq_getElem h]
theorem errOf_at : ∀ (l : List InsL) (k : Nat), k < l.length → errOf (l.take k) = 0 → (oneL (l.getD k (0, [])).1 (l.getD k (0, [])).2).2 ≠ 0 → errOf l = (oneL (l.getD k (0, [])).1 (l.getD k (0, [])).2).2
  | [], k, h, _, _ => by simp at h
  | i :: l, 0, _, _, he => by
    simp only [List.getD_cons_zero] at he
    simp [errOf, he]
  | i :: l, k + 1, h, h0, he => by
    simp only [List.take_succ_cons, errOf] at h0
    have hi : (oneL i.1 i.2).2 = 0 := by
      by_cases c : (oneL i.1 i.2).2 = 0
      · exact c
      · rw [if_pos c] at h0; exact absurd h0 c
    simp only [hi, ne_eq, not_true, if_false] at h0
    simp only [List.getD_cons_succ] at he ⊢
    simp only [errOf, hi, ne_eq, not_true, if_false]
    exact errOf_at l k (by simpa using h) h0 he
theorem errOf_next : ∀ (l : List InsL) (k : Nat), k < l.length → errOf (l.take k) = 0 → (oneL (l.getD k (0, [])).1 (l.getD k (0, [])).2).2 = 0 → errOf (l.take (k + 1)) = 0
  | [], k, h, _, _ => by simp at h
  | i :: l, 0, _, _, he => by
    simp only [List.getD_cons_zero] at he
    simp [errOf, he]
  | i :: l, k + 1, h, h0, he => by
    simp only [List.take_succ_cons, errOf] at h0
    have hi : (oneL i.1 i.2).2 = 0 := by
      by_cases c : (oneL i.1 i.2).2 = 0
      · exact c
      · rw [if_pos c] at h0; exact absurd h0 c
    simp only [hi, ne_eq, not_true, if_false] at h0
    simp only [List.getD_cons_succ] at he
    rw [List.take_succ_cons]
    simp only [errOf, hi, ne_eq, not_true, if_false]
    exact errOf_next l k (by simpa using h) h0 he
end Go.Proofs.YtgcmenjpcgdikaaDoor
