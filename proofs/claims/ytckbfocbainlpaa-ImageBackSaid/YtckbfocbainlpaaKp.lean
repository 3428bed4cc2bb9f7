/- Plain: keys of bytes; eight bytes of a key. No program in sight, no condition. -/
import Derived.Lib.Hide
namespace Go.Proofs.Ytckbfocbainlpaa

def two64 : Nat := 18446744073709551616
def stepN (h : Nat) (b : UInt8) : Nat := ((h ^^^ b.toNat) * 1099511628211) % two64
def moreN (h : Nat) (s : List UInt8) : Nat := s.foldl stepN h
def firstN : Nat := 14695981039346656037
def mixN (h : Nat) : Nat := h ^^^ (h / 4294967296)
def keyN (s : List UInt8) : Nat := mixN (moreN firstN s)
theorem stepN_lt (h : Nat) (b : UInt8) : stepN h b < two64 := Nat.mod_lt _ (by decide)
theorem moreN_lt (h : Nat) (hh : h < two64) (s : List UInt8) : moreN h s < two64 := by
  unfold moreN
  induction s generalizing h with
  | nil => exact hh
  | cons b s ih => exact ih _ (stepN_lt h b)
theorem firstN_lt : firstN < two64 := by decide
theorem mixN_lt (h : Nat) (hh : h < two64) : mixN h < two64 := by
  unfold mixN
  have e : two64 = 2 ^ 64 := by decide
  have h2 : h / 4294967296 < two64 := Nat.lt_of_le_of_lt (Nat.div_le_self _ _) hh
  generalize h / 4294967296 = y at *
  rw [e] at hh h2 ⊢
  exact Nat.xor_lt_two_pow hh h2
theorem keyN_lt (s : List UInt8) : keyN s < two64 := mixN_lt _ (moreN_lt _ firstN_lt _)
theorem moreN_snoc (h : Nat) (s : List UInt8) (k : Nat) (hk : k < s.length) : moreN h (s.take (k + 1)) = stepN (moreN h (s.take k)) (s.getD k 0) := by
  have e : s.getD k 0 = s[k] := by simp [List.getD_eq_getElem?_getD, hk]
  rw [List.take_succ_eq_append_getElem hk, e]
  unfold moreN
  rw [List.foldl_append, List.foldl_cons, List.foldl_nil]

/-- The last m of a number's bytes, the higher first. -/
def beN (k : Nat) : Nat → List UInt8
  | 0 => []
  | m + 1 => beN (k / 256) m ++ [UInt8.ofNat (k % 256)]
theorem beN_length (k m : Nat) : (beN k m).length = m := by
  induction m generalizing k with
  | zero => rfl
  | succ m ih => simp [beN, ih]
def eightL (k : Nat) : List UInt8 := beN k 8
theorem beN_get (k m j : Nat) (hj : j < m) : (beN k m).getD j 0 = UInt8.ofNat (k / 256 ^ (m - 1 - j) % 256) := by
  induction m generalizing k j with
  | zero => omega
  | succ m ih =>
    unfold beN
    rw [List.getD_eq_getElem?_getD, List.getElem?_append]
    by_cases h : j < m
    · rw [if_pos (by rw [beN_length]; exact h), ← List.getD_eq_getElem?_getD, ih _ _ h, Nat.div_div_eq_div_mul]
      congr 2
      rw [← Nat.pow_succ', show (m - 1 - j).succ = m + 1 - 1 - j by omega]
    · obtain rfl : j = m := by omega
      rw [if_neg (by rw [beN_length]; omega), beN_length]
      simp
/-- .. read back. -/
def toN (l : List UInt8) : Nat := l.foldl (fun n b => n * 256 + b.toNat) 0
theorem toN_snoc (l : List UInt8) (b : UInt8) : toN (l ++ [b]) = toN l * 256 + b.toNat := by unfold toN; simp [List.foldl_append]
theorem toN_beN (m k : Nat) : toN (beN k m) = k % 256 ^ m := by
  induction m generalizing k with
  | zero => simp [beN, toN, Nat.mod_one]
  | succ m ih =>
    unfold beN
    rw [toN_snoc, ih, show (UInt8.ofNat (k % 256)).toNat = k % 256 % 256 from UInt8.toNat_ofNat, Nat.mod_mod, Nat.pow_succ, Nat.mul_comm (256 ^ m) 256, Nat.mod_mul]
    omega
theorem eightL_inj (a b : Nat) (ha : a < two64) (hb : b < two64) (h : eightL a = eightL b) : a = b := by
  have := congrArg toN h
  unfold eightL at this
  rw [toN_beN, toN_beN] at this
  unfold two64 at *
  omega
end Go.Proofs.Ytckbfocbainlpaa
