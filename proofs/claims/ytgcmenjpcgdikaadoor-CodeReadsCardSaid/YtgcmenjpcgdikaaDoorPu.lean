/- Layer 16 in plain Lean: a reading that has failed stays so. No program. -/
import Derived.Test.YtgcmenjpcgdikaaDoorPk
namespace Go.Proofs.YtgcmenjpcgdikaaDoor

theorem read1_badR (c : UInt8) (s : List UInt8) (t : RSt) (h : t.bad = true) : (read1 c s t).bad = true := by
  unfold read1 failsB; rw [h]; rfl
theorem readRows_badR (s : List UInt8) (t : RSt) (h : t.bad = true) : (readRows s t).bad = true := by
  unfold readRows failsB; rw [h]; rfl
theorem step_badR (op : Nat) (s : List UInt8) (k : Nat) (t : RSt) (h : t.bad = true) : (stepSt op s k t).bad = true := by
  unfold stepSt
  split
  · exact readRows_badR _ _ (read1_badR _ _ _ h)
  · exact read1_badR _ _ _ h
theorem st_badR (op : Nat) (s : List UInt8) (nx0 j : Nat) (h : (stAt op s nx0 j).bad = true) : ∀ m, j ≤ m → (stAt op s nx0 m).bad = true
  | 0, hm => by obtain rfl : j = 0 := by omega
                exact h
  | m + 1, hm => by
    rcases Nat.lt_or_ge j (m + 1) with h1 | h1
    · exact step_badR _ _ _ _ (st_badR op s nx0 j h m (by omega))
    · obtain rfl : j = m + 1 := by omega
      exact h
theorem read1_fails (c : UInt8) (s : List UInt8) (t : RSt) (h : s.length < t.nx + sizeN c) : (read1 c s t).bad = true := by
  unfold read1 failsB; simp [h]
theorem read1_goes (c : UInt8) (s : List UInt8) (t : RSt) (hb : t.bad = false) (h : t.nx + sizeN c ≤ s.length) : read1 c s t = { t with nx := t.nx + sizeN c, args := t.args ++ [readN c s t.nx] } := by
  unfold read1 failsB
  rw [if_neg]
  simp [hb]; omega
theorem readRows_fails (s : List UInt8) (t : RSt) (h : s.length ≤ t.nx) : (readRows s t).bad = true := by
  unfold readRows failsB; simp [sizeN]; split <;> simp_all <;> omega
theorem readRows_goes (s : List UInt8) (t : RSt) (hb : t.bad = false) (h : t.nx < s.length) : readRows s t = { t with nx := t.nx + 1, rows := (s.getD t.nx 0).toNat } := by
  unfold readRows failsB
  rw [if_neg]
  simp [hb, sizeN]; omega
end Go.Proofs.YtgcmenjpcgdikaaDoor
