/- Layer 16 in plain Lean: reading all instructions of a text. No program. -/
import Derived.Test.YtgcmenjpcgdikaaDoorPn
namespace Go.Proofs.YtgcmenjpcgdikaaDoor

theorem read1_ge (c : UInt8) (s : List UInt8) (t : RSt) : t.nx ≤ (read1 c s t).nx := by unfold read1; split <;> simp
theorem readRows_ge (s : List UInt8) (t : RSt) : t.nx ≤ (readRows s t).nx := by unfold readRows; split <;> simp
theorem st_ge (op : Nat) (s : List UInt8) (nx0 : Nat) : ∀ k, nx0 ≤ (stAt op s nx0 k).nx
  | 0 => Nat.le_refl _
  | k + 1 => by
    have ih := st_ge op s nx0 k
    show nx0 ≤ (stepSt op s k _).nx
    unfold stepSt
    split
    · exact Nat.le_trans ih (Nat.le_trans (read1_ge _ _ _) (readRows_ge _ _))
    · exact Nat.le_trans ih (read1_ge _ _ _)
/-- What a reading that succeeds says of the next place. -/
theorem decode_next (s : List UInt8) (a : Nat) (ha : a < s.length) (h : (decodeL s a).2.2 = 0) : ∃ b : Nat, (decodeL s a).2.1 = b ∧ a < b ∧ b ≤ s.length ∧ (decodeL s a).1.1 < 256 ∧ (decodeL s a).1.2.length ≤ 769 := by
  unfold decodeL at h ⊢
  rw [if_neg (by omega)] at h ⊢
  rw [Int.toNat_natCast] at h ⊢
  by_cases hT : thereB (s.getD a 0).toNat = false
  · rw [if_pos hT] at h; simp at h
  · rw [if_neg hT] at h ⊢
    by_cases hb : (stAt (s.getD a 0).toNat s (a + 1) (endAt (s.getD a 0).toNat s (a + 1))).bad = true
    · rw [if_pos hb] at h; simp at h
    · rw [if_neg hb]
      refine ⟨_, rfl, ?_, st_nx _ _ _ (by omega) _, (s.getD a 0).toNat_lt, ?_⟩
      · have := st_ge (s.getD a 0).toNat s (a + 1) (endAt (s.getD a 0).toNat s (a + 1)); omega
      · show (stAt _ _ _ _).args.length ≤ 769
        rw [st_len]; exact end_few _ _ _
/-- All instructions from a place on; their places; the error, if there is one. -/
def allGo (s : List UInt8) : Nat → Nat → List InsL × List Int × Int
  | 0, _ => ([], [], 0)
  | f + 1, a =>
    if a < s.length then
      if (decodeL s a).2.2 ≠ 0 then ([], [], (decodeL s a).2.2)
      else if (allGo s f (decodeL s a).2.1.toNat).2.2 ≠ 0 then ([], [], (allGo s f (decodeL s a).2.1.toNat).2.2)
      else ((decodeL s a).1 :: (allGo s f (decodeL s a).2.1.toNat).1, (a : Int) :: (allGo s f (decodeL s a).2.1.toNat).2.1, 0)
    else ([], [], 0)
theorem allGo_succ (s : List UInt8) (f a : Nat) : allGo s (f + 1) a = if a < s.length then
      if (decodeL s a).2.2 ≠ 0 then ([], [], (decodeL s a).2.2)
      else if (allGo s f (decodeL s a).2.1.toNat).2.2 ≠ 0 then ([], [], (allGo s f (decodeL s a).2.1.toNat).2.2)
      else ((decodeL s a).1 :: (allGo s f (decodeL s a).2.1.toNat).1, (a : Int) :: (allGo s f (decodeL s a).2.1.toNat).2.1, 0)
    else ([], [], 0) := rfl
def allL (s : List UInt8) : List InsL × List Int × Int := if 65535 < s.length then ([], [], 5) else allGo s (s.length + 1) 0
/-- What has been read, ahead of what is still to be read. -/
def joinA (l : List InsL) (p : List Int) (r : List InsL × List Int × Int) : List InsL × List Int × Int := if r.2.2 ≠ 0 then ([], [], r.2.2) else (l ++ r.1, p ++ r.2.1, 0)
theorem all_err (s : List UInt8) (f a : Nat) (h : (allGo s f a).2.2 ≠ 0) : ([], [], (allGo s f a).2.2) = allGo s f a := by
  cases f with
  | zero => exact absurd rfl h
  | succ f =>
    rw [allGo_succ] at h ⊢
    split
    · split
      · rfl
      · split
        · rfl
        · rename_i h1 h2 h3; simp [h1, h2, h3] at h
    · rename_i h1; simp [h1] at h
theorem all_ok (s : List UInt8) (f a : Nat) (h : ¬ (allGo s f a).2.2 ≠ 0) : ([] ++ (allGo s f a).1, [] ++ (allGo s f a).2.1, (0 : Int)) = allGo s f a := by
  have e : (allGo s f a).2.2 = 0 := by simpa using h
  rw [List.nil_append, List.nil_append, ← e]
theorem join_nil (s : List UInt8) (f a : Nat) : joinA [] [] (allGo s f a) = allGo s f a := by
  unfold joinA
  split
  · rename_i h; exact all_err s f a h
  · rename_i h; exact all_ok s f a h
theorem join_end (s : List UInt8) (f a : Nat) (h : ¬ a < s.length) (l : List InsL) (p : List Int) : joinA l p (allGo s (f + 1) a) = (l, p, 0) := by
  rw [allGo_succ, if_neg h]; unfold joinA; simp
theorem join_err (s : List UInt8) (f a : Nat) (h : a < s.length) (he : (decodeL s a).2.2 ≠ 0) (l : List InsL) (p : List Int) : joinA l p (allGo s (f + 1) a) = ([], [], (decodeL s a).2.2) := by
  rw [allGo_succ, if_pos h, if_pos he]; unfold joinA; rw [if_pos he]
theorem join_step (s : List UInt8) (f a : Nat) (h : a < s.length) (he : (decodeL s a).2.2 = 0) (l : List InsL) (p : List Int) :
    joinA l p (allGo s (f + 1) a) = joinA (l ++ [(decodeL s a).1]) (p ++ [(a : Int)]) (allGo s f (decodeL s a).2.1.toNat) := by
  rw [allGo_succ, if_pos h, if_neg (by simp [he])]
  generalize allGo s f (decodeL s a).2.1.toNat = r
  unfold joinA
  by_cases hr : r.2.2 ≠ 0
  · simp [hr]
  · simp only [hr, if_false]
    simp
end Go.Proofs.YtgcmenjpcgdikaaDoor
