/- Layer 16 in plain Lean: what the bytes of an instruction are. No program. -/
import Derived.Test.YtgcmenjpcgdikaaDoorNm
import Derived.Lib.Repeat
namespace Go.Proofs.YtgcmenjpcgdikaaDoor

/-- The form of an instruction with its rows. -/
def wholeL (n r : Nat) : List UInt8 := formL n ++ Lib.repeatL [87, 87, 74] r
def lowK (c : UInt8) : Int := if c = 74 then -32768 else 0
def highK (c : UInt8) : Int := if c = 66 then 255 else if c = 74 then 32767 else 65535
def sizeK (c : UInt8) : Int := if c = 66 then 1 else 2
def letter (c : UInt8) : Prop := c = 66 ∨ c = 87 ∨ c = 74
def inK (c : UInt8) (x : Int) : Bool := decide (lowK c ≤ x) && decide (x ≤ highK c)
def encArg (c : UInt8) (x : Int) : List UInt8 := if c = 66 then [UInt8.ofNat (x % 256).toNat] else [UInt8.ofNat (x / 256 % 256).toNat, UInt8.ofNat (x % 256).toNat]
def rowsOf (n len : Nat) : Nat := if n = 60 then (len - 2) / 3 else 0
def rowsOk (n len : Nat) : Bool := if n = 60 then decide (2 ≤ len ∧ (len - 2) % 3 = 0) else len == (formL n).length
/-- The letters of an instruction of so many numbers. -/
def lettersOf (n len : Nat) : List UInt8 := wholeL n (rowsOf n len)
def okTo (n : Nat) (args : List Int) (k : Nat) : Bool := (List.range k).all fun j => inK ((lettersOf n args.length).getD j 0) (args.getD j 0)
/-- The bytes of the first k numbers, behind the op's own. -/
def encTo (n : Nat) (args : List Int) : Nat → List UInt8
  | 0 => [UInt8.ofNat n]
  | k + 1 => encTo n args k ++ encArg ((lettersOf n args.length).getD k 0) (args.getD k 0) ++ (if n = 60 ∧ k = 0 then [UInt8.ofNat (rowsOf n args.length)] else [])
def oneL (n : Nat) (args : List Int) : List UInt8 × Int :=
  if thereB n = false then ([], 160) else if rowsOk n args.length = false then ([], 2)
  else if okTo n args args.length = false then ([], 2) else if 256 ≤ rowsOf n args.length then ([], 5) else (encTo n args args.length, 0)

theorem okTo_succ (n : Nat) (args : List Int) (k : Nat) : okTo n args (k + 1) = (okTo n args k && inK ((lettersOf n args.length).getD k 0) (args.getD k 0)) := by
  unfold okTo; rw [List.range_succ, List.all_append]; simp
theorem okTo_mono (n : Nat) (args : List Int) {j k : Nat} (h : j ≤ k) (hk : okTo n args k = true) : okTo n args j = true := by
  unfold okTo at *; rw [List.all_eq_true] at *
  intro x hx; exact hk x (by simp at *; omega)
theorem form_letters (n : Nat) : ∀ c ∈ formL n, letter c := by
  unfold formL letter
  repeat' split
  all_goals simp
theorem repeat_letters (r : Nat) : ∀ c ∈ Lib.repeatL [87, 87, 74] r, letter c := by
  induction r with
  | zero => simp [Lib.repeatL]
  | succ r ih =>
    intro c hc
    simp only [Lib.repeatL, List.mem_append, List.mem_cons, List.not_mem_nil, or_false] at hc
    rcases hc with (rfl | rfl | rfl) | hc
    · exact .inr (.inl rfl)
    · exact .inr (.inl rfl)
    · exact .inr (.inr rfl)
    · exact ih c hc
theorem whole_letters (n r : Nat) : ∀ c ∈ wholeL n r, letter c := by
  intro c hc
  rcases List.mem_append.1 hc with h | h
  · exact form_letters n c h
  · exact repeat_letters r c h
theorem whole_length (n r : Nat) : (wholeL n r).length = (formL n).length + 3 * r := by
  unfold wholeL; rw [List.length_append, Lib.repeatL_length]; simp; omega
theorem form60 : formL 60 = [66, 74] := by decide
theorem letters_length (n len : Nat) (h : rowsOk n len = true) : (lettersOf n len).length = len := by
  unfold lettersOf
  rw [whole_length]
  unfold rowsOk at h
  unfold rowsOf
  split at h
  · rename_i h60; subst h60
    simp only [decide_eq_true_eq] at h
    rw [if_pos rfl, form60]; simp; omega
  · rename_i h60
    rw [if_neg h60]; simp at h; omega
theorem letter_at (n len k : Nat) (hk : k < (lettersOf n len).length) : letter ((lettersOf n len).getD k 0) := by
  rw [List.getD_eq_getElem?_getD, List.getElem?_eq_getElem hk]
  exact whole_letters _ _ _ (List.getElem_mem hk)
theorem encArg_short (c : UInt8) (x : Int) : (encArg c x).length ≤ 2 := by unfold encArg; split <;> simp
theorem few_args (n len : Nat) (h : rowsOk n len = true) (hr : rowsOf n len < 256) : len ≤ 769 := by
  have h1 := letters_length n len h
  unfold lettersOf at h1
  rw [whole_length] at h1
  have h2 := form_short n
  omega
theorem encTo_short (n : Nat) (args : List Int) (k : Nat) : (encTo n args k).length ≤ 3 * k + 1 := by
  induction k with
  | zero => simp [encTo]
  | succ k ih =>
    unfold encTo encArg
    simp only [List.length_append]
    split <;> split <;> simp <;> omega
theorem encTo_case (n : Nat) (args : List Int) (k : Nat) (h : n = 60 ∧ k = 0) : encTo n args (k + 1) = encTo n args k ++ encArg ((lettersOf n args.length).getD k 0) (args.getD k 0) ++ [UInt8.ofNat (rowsOf n args.length)] := by
  show _ ++ _ ++ _ = _
  rw [if_pos h]
theorem encTo_step (n : Nat) (args : List Int) (k : Nat) (h : ¬ (n = 60 ∧ k = 0)) : encTo n args (k + 1) = encTo n args k ++ encArg ((lettersOf n args.length).getD k 0) (args.getD k 0) := by
  show _ ++ _ ++ _ = _
  rw [if_neg h, List.append_nil]
theorem one_bad (n : Nat) (args : List Int) (k : Nat) (hT : thereB n = true) (hR : rowsOk n args.length = true) (hk : k < args.length)
    (hb : inK ((lettersOf n args.length).getD k 0) (args.getD k 0) = false) : oneL n args = ([], 2) := by
  have h : okTo n args args.length = false := by
    rw [Bool.eq_false_iff]
    intro h
    have := okTo_mono n args (j := k + 1) (by omega) h
    rw [okTo_succ, hb] at this
    simp at this
  unfold oneL
  simp [hT, hR, h]
theorem one_good (n : Nat) (args : List Int) (hT : thereB n = true) (hR : rowsOk n args.length = true) (hok : okTo n args args.length = true) (hr : rowsOf n args.length < 256) :
    oneL n args = (encTo n args args.length, 0) := by
  unfold oneL
  simp [hT, hR, hok, hr]
theorem one_long (n : Nat) (args : List Int) (hT : thereB n = true) (hR : rowsOk n args.length = true) (hok : okTo n args args.length = true) (hr : 256 ≤ rowsOf n args.length) :
    oneL n args = ([], 5) := by
  unfold oneL
  simp [hT, hR, hok, hr]
end Go.Proofs.YtgcmenjpcgdikaaDoor
