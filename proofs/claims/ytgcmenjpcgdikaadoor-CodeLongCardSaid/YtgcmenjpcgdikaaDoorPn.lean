/- Layer 16 in plain Lean: reading an instruction. No program. -/
import Derived.Test.YtgcmenjpcgdikaaDoorPm
namespace Go.Proofs.YtgcmenjpcgdikaaDoor

def sizeN (c : UInt8) : Nat := if c = 66 then 1 else 2
/-- What two bytes, or one, come to. -/
def readN (c : UInt8) (s : List UInt8) (nx : Nat) : Int :=
  if c = 66 then ((s.getD nx 0).toNat : Int)
  else if highK c < ((s.getD nx 0).toNat : Int) * 256 + ((s.getD (nx + 1) 0).toNat : Int) then ((s.getD nx 0).toNat : Int) * 256 + ((s.getD (nx + 1) 0).toNat : Int) - 65536
  else ((s.getD nx 0).toNat : Int) * 256 + ((s.getD (nx + 1) 0).toNat : Int)
def failsB (c : UInt8) (s : List UInt8) (nx : Nat) (bad : Bool) : Bool := bad || decide (s.length < nx + sizeN c)
/-- The state of a reading: how many rows there are, the next place, whether it has failed, the numbers. -/
structure RSt where
  rows : Nat
  nx : Nat
  bad : Bool
  args : List Int
def read1 (c : UInt8) (s : List UInt8) (t : RSt) : RSt :=
  if failsB c s t.nx t.bad then { t with bad := true, args := t.args ++ [0] } else { t with nx := t.nx + sizeN c, args := t.args ++ [readN c s t.nx] }
def readRows (s : List UInt8) (t : RSt) : RSt :=
  if failsB 66 s t.nx t.bad then { t with bad := true, rows := 0 } else { t with nx := t.nx + 1, rows := (s.getD t.nx 0).toNat }
def stepSt (op : Nat) (s : List UInt8) (k : Nat) (t : RSt) : RSt :=
  if op = 60 ∧ k = 0 then readRows s (read1 ((wholeL op t.rows).getD k 0) s t) else read1 ((wholeL op t.rows).getD k 0) s t
def stAt (op : Nat) (s : List UInt8) (nx0 : Nat) : Nat → RSt
  | 0 => ⟨0, nx0, false, []⟩
  | k + 1 => stepSt op s k (stAt op s nx0 k)

/-- What a reading of one number comes to: it, the next place, whether it has failed. -/
def readX (c : UInt8) (s : List UInt8) (nx : Nat) (bad : Bool) : Int × Nat × Bool := if failsB c s nx bad then (0, nx, true) else (readN c s nx, nx + sizeN c, bad)
theorem read1_eq (c : UInt8) (s : List UInt8) (rows nx : Nat) (bad : Bool) (args : List Int) : read1 c s ⟨rows, nx, bad, args⟩ = ⟨rows, (readX c s nx bad).2.1, (readX c s nx bad).2.2, args ++ [(readX c s nx bad).1]⟩ := by
  unfold read1 readX
  split <;> rfl
theorem readX_nx (c : UInt8) (s : List UInt8) (nx : Nat) (bad : Bool) (h : nx ≤ s.length) : (readX c s nx bad).2.1 ≤ s.length := by
  unfold readX failsB
  split
  · exact h
  · rename_i hh
    simp only [Bool.or_eq_true, decide_eq_true_eq, not_or] at hh
    simp only
    omega
theorem readRows_eq (s : List UInt8) (rows nx : Nat) (bad : Bool) (args : List Int) : readRows s ⟨rows, nx, bad, args⟩ = ⟨(readX 66 s nx bad).1.toNat, (readX 66 s nx bad).2.1, (readX 66 s nx bad).2.2, args⟩ := by
  unfold readRows readX
  split
  · rfl
  · show RSt.mk _ _ _ _ = RSt.mk (((s.getD nx 0).toNat : Int)).toNat (nx + 1) bad args
    rw [Int.toNat_natCast]
theorem readX_byte (s : List UInt8) (nx : Nat) (bad : Bool) : 0 ≤ (readX 66 s nx bad).1 ∧ (readX 66 s nx bad).1 ≤ 255 := by
  unfold readX
  split
  · simp
  · have := (s.getD nx 0).toNat_lt
    show (0 : Int) ≤ ((s.getD nx 0).toNat : Int) ∧ ((s.getD nx 0).toNat : Int) ≤ 255
    omega
theorem read1_rows (c : UInt8) (s : List UInt8) (t : RSt) : (read1 c s t).rows = t.rows := by unfold read1; split <;> rfl
theorem read1_len (c : UInt8) (s : List UInt8) (t : RSt) : (read1 c s t).args.length = t.args.length + 1 := by unfold read1; split <;> simp
theorem readRows_args (s : List UInt8) (t : RSt) : (readRows s t).args = t.args := by unfold readRows; split <;> rfl
theorem st_len (op : Nat) (s : List UInt8) (nx0 : Nat) : ∀ k, (stAt op s nx0 k).args.length = k
  | 0 => rfl
  | k + 1 => by
    show (stepSt op s k _).args.length = _
    unfold stepSt
    split
    · rw [readRows_args, read1_len, st_len op s nx0 k]
    · rw [read1_len, st_len op s nx0 k]
theorem readRows_rows (s : List UInt8) (t : RSt) : (readRows s t).rows ≤ 255 := by
  unfold readRows
  split
  · simp
  · have := (s.getD t.nx 0).toNat_lt
    simp only
    omega
theorem st_rows (op : Nat) (s : List UInt8) (nx0 : Nat) : ∀ k, (stAt op s nx0 k).rows ≤ 255
  | 0 => Nat.zero_le _
  | k + 1 => by
    show (stepSt op s k _).rows ≤ _
    unfold stepSt
    split
    · exact readRows_rows _ _
    · rw [read1_rows]; exact st_rows op s nx0 k
theorem read1_nx (c : UInt8) (s : List UInt8) (t : RSt) (h : t.nx ≤ s.length) : (read1 c s t).nx ≤ s.length := by
  unfold read1 failsB
  split
  · exact h
  · rename_i hh
    simp only [Bool.or_eq_true, decide_eq_true_eq, not_or] at hh
    simp only
    omega
theorem readRows_nx (s : List UInt8) (t : RSt) (h : t.nx ≤ s.length) : (readRows s t).nx ≤ s.length := by
  unfold readRows failsB
  split
  · exact h
  · rename_i hh
    simp only [Bool.or_eq_true, decide_eq_true_eq, not_or, sizeN] at hh
    simp only
    simp at hh
    omega
theorem st_nx (op : Nat) (s : List UInt8) (nx0 : Nat) (h : nx0 ≤ s.length) : ∀ k, (stAt op s nx0 k).nx ≤ s.length
  | 0 => h
  | k + 1 => by
    show (stepSt op s k _).nx ≤ _
    unfold stepSt
    split
    · exact readRows_nx _ _ (read1_nx _ _ _ (st_nx op s nx0 h k))
    · exact read1_nx _ _ _ (st_nx op s nx0 h k)
/-- How many rows a reading comes to in the end. -/
def endRows (op : Nat) (s : List UInt8) (nx0 : Nat) : Nat := if op = 60 then (stAt op s nx0 1).rows else 0
def endAt (op : Nat) (s : List UInt8) (nx0 : Nat) : Nat := (wholeL op (endRows op s nx0)).length
theorem st_end (op : Nat) (s : List UInt8) (nx0 : Nat) : ∀ k, (stAt op s nx0 (k + 1)).rows = endRows op s nx0
  | 0 => by
    unfold endRows
    split
    · rfl
    · rename_i h
      show (stepSt op s 0 _).rows = 0
      unfold stepSt
      rw [if_neg (fun hh => h hh.1), read1_rows]
      rfl
  | k + 1 => by
    show (stepSt op s (k + 1) _).rows = _
    unfold stepSt
    rw [if_neg (by omega), read1_rows]
    exact st_end op s nx0 k
theorem whole_le (op r : Nat) : (formL op).length ≤ (wholeL op r).length := by rw [whole_length]; omega
theorem st_more (op : Nat) (s : List UInt8) (nx0 j : Nat) (h : j < (wholeL op (stAt op s nx0 j).rows).length) : j + 1 ≤ endAt op s nx0 := by
  unfold endAt
  rcases j with _ | j
  · have h0 : 0 < (wholeL op 0).length := h
    rw [whole_length] at h0
    have := whole_le op (endRows op s nx0)
    omega
  · rw [st_end] at h; omega
theorem st_done (op : Nat) (s : List UInt8) (nx0 j : Nat) (h : ¬ j < (wholeL op (stAt op s nx0 j).rows).length) (hj : j ≤ endAt op s nx0) : j = endAt op s nx0 := by
  rcases j with _ | j
  · have h0 : ¬ 0 < (wholeL op 0).length := h
    rw [whole_length] at h0
    have hf : formL op = [] := List.eq_nil_of_length_eq_zero (by omega)
    have h60 : op ≠ 60 := by rintro rfl; rw [form60] at hf; cases hf
    unfold endAt endRows
    rw [if_neg h60, whole_length, hf]
    rfl
  · rw [st_end] at h
    unfold endAt at *
    omega
theorem end_few (op : Nat) (s : List UInt8) (nx0 : Nat) : endAt op s nx0 ≤ 769 := by
  unfold endAt
  rw [whole_length]
  have h1 := form_short op
  have h2 : endRows op s nx0 ≤ 255 := by
    unfold endRows
    split
    · exact st_rows op s nx0 1
    · omega
  omega
/-- Which instruction stands at a place of a text, where the next one begins, which error it is. -/
def decodeL (s : List UInt8) (at_ : Int) : InsL × Int × Int :=
  if at_ < 0 ∨ (s.length : Int) ≤ at_ then ((0, []), 0, 2)
  else if thereB (s.getD at_.toNat 0).toNat = false then ((0, []), 0, 160)
  else if (stAt (s.getD at_.toNat 0).toNat s (at_.toNat + 1) (endAt (s.getD at_.toNat 0).toNat s (at_.toNat + 1))).bad then ((0, []), 0, 7)
  else (((s.getD at_.toNat 0).toNat, (stAt (s.getD at_.toNat 0).toNat s (at_.toNat + 1) (endAt (s.getD at_.toNat 0).toNat s (at_.toNat + 1))).args),
    ((stAt (s.getD at_.toNat 0).toNat s (at_.toNat + 1) (endAt (s.getD at_.toNat 0).toNat s (at_.toNat + 1))).nx : Int), 0)
end Go.Proofs.YtgcmenjpcgdikaaDoor
