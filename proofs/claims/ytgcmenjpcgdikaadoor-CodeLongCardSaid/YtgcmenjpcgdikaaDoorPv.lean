/- Layer 16 in plain Lean: rows of instructions next to the bounds. No program. -/
import Derived.Test.YtgcmenjpcgdikaaDoorPt
namespace Go.Proofs.YtgcmenjpcgdikaaDoor

def litRow (m : Nat) : List InsL := (List.range m).map fun i => (40, [((i % 65536 : Nat) : Int)])
def longL (q r : Nat) : List InsL := litRow q ++ List.replicate r (65, [])
theorem litRow_succ (m : Nat) : litRow (m + 1) = litRow m ++ [(40, [((m % 65536 : Nat) : Int)])] := by
  unfold litRow; rw [List.range_succ, List.map_append]; rfl
theorem litRow_len (m : Nat) : (litRow m).length = m := by simp [litRow]
theorem longL_succ (q r : Nat) : longL q (r + 1) = longL q r ++ [(65, [])] := by
  unfold longL; rw [List.replicate_succ', List.append_assoc]
theorem longL_len (q r : Nat) : (longL q r).length = q + r := by simp [longL, litRow_len]
theorem longL_ops (q r : Nat) : ∀ i ∈ longL q r, i.1 < 256 := by
  intro i hi
  rcases List.mem_append.1 hi with h | h
  · obtain ⟨_, _, rfl⟩ := List.mem_map.1 h; show 40 < 256; omega
  · obtain ⟨_, rfl⟩ := List.mem_replicate.1 h; decide
theorem one_lit (x : Nat) (h : x < 65536) : (oneL 40 [(x : Int)]).2 = 0 ∧ (oneL 40 [(x : Int)]).1.length = 3 := by
  have e1 : rowsOk 40 1 = true := by decide
  have e2 : rowsOf 40 1 = 0 := by decide
  have e3 : (lettersOf 40 1).getD 0 0 = 87 := by decide
  have e4 : okTo 40 [(x : Int)] 1 = true := by
    rw [okTo_succ]
    show (okTo 40 [(x : Int)] 0 && inK ((lettersOf 40 1).getD 0 0) (x : Int)) = true
    rw [e3]
    simp [okTo, inK, lowK, highK]
    omega
  have := one_good 40 [(x : Int)] (by decide) e1 e4 (by rw [show [(x : Int)].length = 1 from rfl, e2]; omega)
  rw [this]
  refine ⟨rfl, ?_⟩
  show (encTo 40 [(x : Int)] 1).length = 3
  rw [encTo_step 40 _ 0 (by omega)]
  show ([UInt8.ofNat 40] ++ encArg ((lettersOf 40 1).getD 0 0) (x : Int)).length = 3
  rw [e3]
  rfl
theorem one_ret : oneL 65 [] = ([65], 0) := by decide
theorem errOf_append (a b : List InsL) (ha : errOf a = 0) : errOf (a ++ b) = errOf b := by
  induction a with
  | nil => rfl
  | cons i a ih =>
    simp only [errOf] at ha
    have hi : (oneL i.1 i.2).2 = 0 := by
      by_cases c : (oneL i.1 i.2).2 = 0
      · exact c
      · rw [if_pos c] at ha; exact absurd ha c
    simp only [hi, ne_eq, not_true, if_false] at ha
    simp only [List.cons_append, errOf, hi, ne_eq, not_true, if_false]
    exact ih ha
theorem bytesOf_append (a b : List InsL) : bytesOf (a ++ b) = bytesOf a ++ bytesOf b := by simp [bytesOf]
theorem lit_row (m : Nat) : errOf (litRow m) = 0 ∧ (bytesOf (litRow m)).length = 3 * m := by
  induction m with
  | zero => exact ⟨rfl, rfl⟩
  | succ m ih =>
    have h := one_lit (m % 65536) (by omega)
    rw [litRow_succ, errOf_append _ _ ih.1, bytesOf_append, List.length_append, ih.2]
    constructor
    · simp only [errOf, h.1]; rfl
    · have : bytesOf [((40 : Nat), [((m % 65536 : Nat) : Int)])] = (oneL 40 [((m % 65536 : Nat) : Int)]).1 := by simp [bytesOf]
      rw [this, h.2]; omega
theorem long_row (q r : Nat) : errOf (longL q r) = 0 ∧ (bytesOf (longL q r)).length = 3 * q + r := by
  induction r with
  | zero => have := lit_row q; simpa [longL] using this
  | succ r ih =>
    rw [longL_succ, errOf_append _ _ ih.1, bytesOf_append, List.length_append, ih.2]
    constructor
    · simp only [errOf, one_ret]; rfl
    · simp [bytesOf, one_ret]; omega
theorem encode_long (q r : Nat) : encodeL (longL q r) = if 65535 < 3 * q + r then ([], 5) else (bytesOf (longL q r), 0) := by
  have h := long_row q r
  unfold encodeL
  rw [h.1, if_neg (by simp), h.2]

/-- A case of so many rows, all whose numbers are 0. -/
def zeros (n : Nat) : List Int := List.replicate n 0
theorem rows_zeros (r : Nat) : rowsOk 60 (2 + 3 * r) = true ∧ rowsOf 60 (2 + 3 * r) = r := by
  unfold rowsOk rowsOf
  constructor
  · simp
  · rw [if_pos rfl]; omega
theorem inK_zero' (c : UInt8) (hc : letter c) : inK c 0 = true := by rcases hc with rfl | rfl | rfl <;> rfl
theorem zeros_get (n k : Nat) : (zeros n).getD k 0 = 0 := by
  unfold zeros
  rw [List.getD_eq_getElem?_getD, List.getElem?_replicate]
  split <;> rfl
theorem zeros_len (n : Nat) : (zeros n).length = n := by simp [zeros]
theorem ok_zeros (r : Nat) : ∀ k, k ≤ 2 + 3 * r → okTo 60 (zeros (2 + 3 * r)) k = true
  | 0, _ => rfl
  | k + 1, h => by
    rw [okTo_succ, ok_zeros r k (by omega), zeros_get, zeros_len]
    rw [inK_zero' _ (letter_at 60 (2 + 3 * r) k (by rw [letters_length 60 _ (rows_zeros r).1]; omega))]
    rfl
theorem kind60 (k : Nat) (h : 0 < k) : sizeN (kindL 60 k) = 2 := by
  unfold kindL
  rw [form60]
  split
  · rename_i h2
    have : k = 1 := by simp at h2; omega
    subst this; rfl
  · split <;> rfl
theorem enc_zeros (r : Nat) : ∀ k, k ≤ 2 + 3 * r → (encTo 60 (zeros (2 + 3 * r)) k).length = if k = 0 then 1 else 1 + 2 * k
  | 0, _ => rfl
  | k + 1, h => by
    have ih := enc_zeros r k (by omega)
    have hl : (lettersOf 60 (zeros (2 + 3 * r)).length).getD k 0 = kindL 60 k := by rw [zeros_len]; exact kind_letters 60 _ k (rows_zeros r).1 (by omega)
    rw [if_neg (by omega)]
    by_cases h0 : k = 0
    · subst h0
      rw [encTo_case 60 _ 0 ⟨rfl, rfl⟩, hl]
      rw [List.length_append, List.length_append, encArg_len]
      rfl
    · rw [encTo_step 60 _ k (fun h => h0 h.2), hl, List.length_append, encArg_len, kind60 k (by omega), ih, if_neg h0]
      omega
theorem encode_zeros (r : Nat) : if 256 ≤ r then encodeL [(60, zeros (2 + 3 * r))] = ([], 5) else (encodeL [(60, zeros (2 + 3 * r))]).2 = 0 ∧ (encodeL [(60, zeros (2 + 3 * r))]).1.length = 5 + 6 * r := by
  have h1 := rows_zeros r
  have hok := ok_zeros r (2 + 3 * r) (Nat.le_refl _)
  have hl := zeros_len (2 + 3 * r)
  have hone : oneL 60 (zeros (2 + 3 * r)) = if 256 ≤ r then ([], 5) else (encTo 60 (zeros (2 + 3 * r)) (2 + 3 * r), 0) := by
    split
    · rename_i h; exact one_long 60 _ (by decide) (by rw [hl]; exact h1.1) (by rw [hl]; exact hok) (by rw [hl, h1.2]; exact h)
    · rename_i h; have := one_good 60 (zeros (2 + 3 * r)) (by decide) (by rw [hl]; exact h1.1) (by rw [hl]; exact hok) (by rw [hl, h1.2]; omega)
      rw [hl] at this; exact this
  have hb : bytesOf [(60, zeros (2 + 3 * r))] = (oneL 60 (zeros (2 + 3 * r))).1 := by simp [bytesOf]
  have he : errOf [(60, zeros (2 + 3 * r))] = (oneL 60 (zeros (2 + 3 * r))).2 := by
    simp only [errOf]
    split
    · rfl
    · rename_i h; simp at h; exact h.symm
  unfold encodeL
  rw [hb, he, hone]
  split
  · simp
  · rename_i h
    have := enc_zeros r (2 + 3 * r) (Nat.le_refl _)
    rw [if_neg (by omega)] at this
    simp only [ne_eq, not_true, if_false]
    rw [if_neg (by omega)]
    exact ⟨rfl, by simp only; omega⟩

theorem all_zeros (n : Nat) (h : 0 < n) : allL (List.replicate n 0) = if 65535 < n then ([], [], 5) else ([], [], 160) := by
  unfold allL
  rw [List.length_replicate]
  split
  · rfl
  · rw [allGo_succ, List.length_replicate, if_pos h]
    have hd : decodeL (List.replicate n 0) ((0 : Nat) : Int) = ((0, []), 0, 160) := by
      unfold decodeL
      rw [if_neg (by rw [List.length_replicate]; omega)]
      have : (List.replicate n (0 : UInt8)).getD ((0 : Nat) : Int).toNat 0 = 0 := by
        rw [List.getD_eq_getElem?_getD, List.getElem?_replicate]; split <;> rfl
      rw [this, if_pos (by decide)]
    rw [hd]
    simp
end Go.Proofs.YtgcmenjpcgdikaaDoor
