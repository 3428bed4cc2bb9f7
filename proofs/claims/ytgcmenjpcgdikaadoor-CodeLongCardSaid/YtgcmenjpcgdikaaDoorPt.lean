/- Lengths that CodeBack's walk wants. No condition beyond what each theorem says. -/
import Derived.Test.YtgcmenjpcgdikaaDoorPs
namespace Go.Proofs.YtgcmenjpcgdikaaDoor
theorem encode_len (l : List InsL) : (encodeL l).1.length ≤ 65535 := by
  unfold encodeL
  split
  · simp
  · split
    · simp
    · simp only; omega
theorem all_len (s : List UInt8) : ∀ (f a : Nat), (allGo s f a).1.length ≤ f
  | 0, a => by simp [allGo]
  | f + 1, a => by
    rw [allGo_succ]
    split
    · split
      · simp
      · split
        · simp
        · have := all_len s f (decodeL s a).2.1.toNat
          simp only [List.length_cons]; omega
    · simp
theorem all_len' (s : List UInt8) : (allL s).1.length ≤ s.length + 1 := by
  unfold allL
  split
  · simp
  · exact all_len s _ _
/-- The first instruction of a row that is written is written by itself. -/
theorem encode_head (i : InsL) (l : List InsL) (a : List UInt8) (h : encodeL (i :: l) = (a, 0)) : ∃ one, encodeL [(i.1, i.2)] = (one, 0) ∧ 0 < one.length := by
  unfold encodeL at h
  by_cases he : errOf (i :: l) ≠ 0
  · rw [if_pos he] at h; simp at h; exact absurd h.2 he
  · rw [if_neg he] at h
    have he0 : errOf (i :: l) = 0 := by simpa using he
    obtain ⟨h1, h2⟩ := err_cons _ _ he0
    by_cases hl : 65535 < (bytesOf (i :: l)).length
    · rw [if_pos hl] at h; simp at h
    · have e1 : errOf [(i.1, i.2)] = 0 := by simp [errOf, h1]
      have e2 : bytesOf [(i.1, i.2)] = (oneL i.1 i.2).1 := by simp [bytesOf]
      have e3 : (oneL i.1 i.2).1.length ≤ 65535 := by rw [bytes_cons] at hl; simp at hl; omega
      refine ⟨(oneL i.1 i.2).1, ?_, ?_⟩
      · unfold encodeL
        rw [if_neg (by simp [e1]), e2, if_neg (by omega)]
      · obtain ⟨_, _, _, _, h5⟩ := oneL_ok i.1 i.2 h1
        rw [h5]; exact encTo_pos ..
end Go.Proofs.YtgcmenjpcgdikaaDoor
