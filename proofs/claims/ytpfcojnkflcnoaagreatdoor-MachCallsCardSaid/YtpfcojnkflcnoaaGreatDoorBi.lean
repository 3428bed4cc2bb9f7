/- Layer 16, bundled (printed by gen_k16.py): The names of the instructions, as lists of bytes; the forms; plain Lean, no program. · Layer 16 in plain Lean: what the bytes of an instruction are. No program. · Layer 16 in plain Lean: what the bytes of a row of instructions are. No program. · Layer 16 in plain Lean: reading an instruction. No program. · Layer 16 in plain Lean: reading all instructions of a text. No program. · Layer 16 in plain Lean: the kind of the number at a place, by the form and by rows of three. No program. · Layer 16 in plain Lean: what was written is read. No program. Layer 16, bundled (printed by gen_k16.py): The walks of code.names and code.Name. Layer 16, bundled (printed by gen_k16.py): code.rows, number.bytes and the look-up at whatever letter; code.one where there is no such op, or not so many numbers. · code.one where its numbers are so many as they must be: the loop over the letters. · code.one where its rows are too many: the loop that only looks. · code.one at whatever instruction; code.Encode. · The closure of code.Decode that reads a number. Condition: what lies in memory can lie there; what each theorem says. -/
import Derived.Test.YtpfcojnkflcnoaaGreatDoorBa
import Derived.Test.YtpfcojnkflcnoaaGreatDoorShelf
import Derived.WalkKit
import Derived.Lib.Repeat
import Derived.Lib.Hide
import Derived.Maps.OwnOps
import Derived.Deep.QuietTactic
import Derived.BigQuiet
import Derived.Lib.OthersKept
import Derived.Lib.ConvBytes
/- Layer 16, bundled (printed by gen_k16.py): The names of the instructions, as lists of bytes; the forms; plain Lean, no program. · Layer 16 in plain Lean: what the bytes of an instruction are. No program. · Layer 16 in plain Lean: what the bytes of a row of instructions are. No program. · Layer 16 in plain Lean: reading an instruction. No program. · Layer 16 in plain Lean: reading all instructions of a text. No program. · Layer 16 in plain Lean: the kind of the number at a place, by the form and by rows of three. No program. · Layer 16 in plain Lean: what was written is read. No program. -/
section

namespace Go.Proofs.YtpfcojnkflcnoaaGreatDoor.K16
def opsNames : List (List UInt8) := [[105, 97, 100, 100], [105, 115, 117, 98], [105, 109, 117, 108], [105, 100, 105, 118], [105, 109, 111, 100], [105, 110, 101, 103], [105, 97, 98, 115], [99, 97, 100, 100], [99, 115, 117, 98], [99, 109, 117, 108], [99, 100, 105, 118], [99, 109, 111, 100], [101, 113], [110, 101], [105, 108, 116], [105, 108, 101], [105, 103, 116], [105, 103, 101], [99, 108, 116], [99, 108, 101], [99, 103, 116], [99, 103, 101], [110, 111, 116], [111, 114], [97, 110, 100, 110], [97, 110, 100], [120, 111, 114], [105, 110], [115, 117, 98], [111, 110, 101], [114, 111, 119]]
def insNames : List (List UInt8) := [[108, 105, 116], [108, 103], [115, 103], [97, 103], [108, 108], [115, 108], [97, 108], [108, 105], [115, 105], [97, 100, 100], [112, 116, 114], [105, 120], [105, 120, 111, 112], [114, 97, 110, 103, 101], [99, 111, 110, 118], [106, 109, 112], [106, 122], [106, 110, 122], [106, 122, 107], [106, 110, 107], [99, 97, 115, 101], [109, 97, 114, 107], [99, 97, 108, 108], [99, 97, 108, 108, 120], [99, 97, 108, 108, 102], [114, 101, 116], [114, 101, 116, 102], [112, 114, 111, 99], [100, 117, 112], [100, 114, 111, 112], [115, 119, 97, 112], [109, 111, 118, 101], [110, 101, 119], [102, 114, 101, 101], [114, 101, 97, 100], [119, 114, 105, 116, 101], [119, 114, 115], [119, 114, 105], [119, 114, 99], [119, 114, 108, 110], [116, 114, 97, 112], [100, 117, 112, 120]]
/-- The name of the op number n; of no op: none. -/
def nameL (n : Nat) : List UInt8 := if 1 ≤ n ∧ n ≤ 31 then opsNames.getD (n - 1) [] else if 40 ≤ n ∧ n ≤ 81 then insNames.getD (n - 40) [] else []
/-- Is there an op of that number? -/
def thereB (n : Nat) : Bool := (1 ≤ n && n ≤ 31) || (40 ≤ n && n ≤ 81)
def wOps : List Nat := [40, 47, 48, 49, 52, 71, 72]
def bwOps : List Nat := [41, 42, 43, 44, 45, 46, 62, 63, 67]
def jOps : List Nat := [55, 56, 57, 58, 59]
/-- The form of an op: the letters B W J. -/
def formL (n : Nat) : List UInt8 :=
  if n ∈ wOps then [87] else if n ∈ bwOps then [66, 87] else if n = 51 then [66, 87, 87, 87] else if n = 53 then [66, 87, 87]
  else if n ∈ jOps then [74] else if n = 64 ∨ n = 80 then [66] else if n = 60 then [66, 74] else []
theorem name_there : ∀ n, n < 256 → ((nameL n).isEmpty = !thereB n) := by decide +kernel
theorem form_there : ∀ n, n < 256 → formL n ≠ [] → thereB n = true := by decide +kernel
def firstAt (x : List UInt8) : Nat := ((List.range 256).find? fun k => nameL k == x).getD 0
theorem first_name : ∀ n, n < 256 → thereB n = true → firstAt (nameL n) = n := by decide +kernel
theorem names_apart (a : Nat) (ha : a < 256) (b : Nat) (hb : b < 256) (h : thereB a = true) (k : thereB b = true) (e : nameL a = nameL b) : a = b := by
  rw [← first_name a ha h, e, first_name b hb k]
theorem form_short (n : Nat) : (formL n).length ≤ 4 := by
  unfold formL
  repeat' split
  all_goals simp
end Go.Proofs.YtpfcojnkflcnoaaGreatDoor.K16
end
section

namespace Go.Proofs.YtpfcojnkflcnoaaGreatDoor.K16

/-- The form of an instruction with its rows. -/
def wholeL (n r : Nat) : List UInt8 := formL n ++ Lib.repeatL [87, 87, 74] r
def lowK (c : UInt8) : Int := if c = 74 then -32768 else 0
def highK (c : UInt8) : Int := if c = 66 then 255 else if c = 74 then 32767 else 65535
def sizeK (c : UInt8) : Int := if c = 66 then 1 else 2
def letter (c : UInt8) : Prop := c = 66 ∨ c = 87 ∨ c = 74
def inK (c : UInt8) (x : Int) : Bool := decide (lowK c ≤ x) && decide (x ≤ highK c)
def encArg (c : UInt8) (x : Int) : List UInt8 := if c = 66 then [UInt8.ofNat (x % 256).toNat] else [UInt8.ofNat (x / 256 % 256).toNat, UInt8.ofNat (x % 256).toNat]
def rowsOf (n len : Nat) : Nat := if n = 60 then (len - 2) / 3 else 0
def rowsOk (n len : Nat) : Bool := if n = 60 then decide (2 ≤ len ∧ (len - 2) % 3 = 0) else len == (formL n).length
/-- The letters of an instruction of so many numbers. -/
def lettersOf (n len : Nat) : List UInt8 := wholeL n (rowsOf n len)
def okTo (n : Nat) (args : List Int) (k : Nat) : Bool := (List.range k).all fun j => inK ((lettersOf n args.length).getD j 0) (args.getD j 0)
/-- The bytes of the first k numbers, behind the op's own. -/
def encTo (n : Nat) (args : List Int) : Nat → List UInt8
  | 0 => [UInt8.ofNat n]
  | k + 1 => encTo n args k ++ encArg ((lettersOf n args.length).getD k 0) (args.getD k 0) ++ (if n = 60 ∧ k = 0 then [UInt8.ofNat (rowsOf n args.length)] else [])
def oneL (n : Nat) (args : List Int) : List UInt8 × Int :=
  if thereB n = false then ([], 160) else if rowsOk n args.length = false then ([], 2)
  else if okTo n args args.length = false then ([], 2) else if 256 ≤ rowsOf n args.length then ([], 5) else (encTo n args args.length, 0)

theorem okTo_succ (n : Nat) (args : List Int) (k : Nat) : okTo n args (k + 1) = (okTo n args k && inK ((lettersOf n args.length).getD k 0) (args.getD k 0)) := by
  unfold okTo; rw [List.range_succ, List.all_append]; simp
theorem okTo_mono (n : Nat) (args : List Int) {j k : Nat} (h : j ≤ k) (hk : okTo n args k = true) : okTo n args j = true := by
  unfold okTo at *; rw [List.all_eq_true] at *
  intro x hx; exact hk x (by simp at *; omega)
theorem form_letters (n : Nat) : ∀ c ∈ formL n, letter c := by
  unfold formL letter
  repeat' split
  all_goals simp
theorem repeat_letters (r : Nat) : ∀ c ∈ Lib.repeatL [87, 87, 74] r, letter c := by
  induction r with
  | zero => simp [Lib.repeatL]
  | succ r ih =>
    intro c hc
    simp only [Lib.repeatL, List.mem_append, List.mem_cons, List.not_mem_nil, or_false] at hc
    rcases hc with (rfl | rfl | rfl) | hc
    · exact .inr (.inl rfl)
    · exact .inr (.inl rfl)
    · exact .inr (.inr rfl)
    · exact ih c hc
theorem whole_letters (n r : Nat) : ∀ c ∈ wholeL n r, letter c := by
  intro c hc
  rcases List.mem_append.1 hc with h | h
  · exact form_letters n c h
  · exact repeat_letters r c h
theorem whole_length (n r : Nat) : (wholeL n r).length = (formL n).length + 3 * r := by
  unfold wholeL; rw [List.length_append, Lib.repeatL_length]; simp; omega
theorem form60 : formL 60 = [66, 74] := by decide
theorem letters_length (n len : Nat) (h : rowsOk n len = true) : (lettersOf n len).length = len := by
  unfold lettersOf
  rw [whole_length]
  unfold rowsOk at h
  unfold rowsOf
  split at h
  · rename_i h60; subst h60
    simp only [decide_eq_true_eq] at h
    rw [if_pos rfl, form60]; simp; omega
  · rename_i h60
    rw [if_neg h60]; simp at h; omega
theorem letter_at (n len k : Nat) (hk : k < (lettersOf n len).length) : letter ((lettersOf n len).getD k 0) := by
  rw [List.getD_eq_getElem?_getD, List.getElem?_eq_getElem hk]
  exact whole_letters _ _ _ (List.getElem_mem hk)
theorem encArg_short (c : UInt8) (x : Int) : (encArg c x).length ≤ 2 := by unfold encArg; split <;> simp
theorem few_args (n len : Nat) (h : rowsOk n len = true) (hr : rowsOf n len < 256) : len ≤ 769 := by
  have h1 := letters_length n len h
  unfold lettersOf at h1
  rw [whole_length] at h1
  have h2 := form_short n
  omega
theorem encTo_short (n : Nat) (args : List Int) (k : Nat) : (encTo n args k).length ≤ 3 * k + 1 := by
  induction k with
  | zero => simp [encTo]
  | succ k ih =>
    unfold encTo encArg
    simp only [List.length_append]
    split <;> split <;> simp <;> omega
theorem encTo_case (n : Nat) (args : List Int) (k : Nat) (h : n = 60 ∧ k = 0) : encTo n args (k + 1) = encTo n args k ++ encArg ((lettersOf n args.length).getD k 0) (args.getD k 0) ++ [UInt8.ofNat (rowsOf n args.length)] := by
  show _ ++ _ ++ _ = _
  rw [if_pos h]
theorem encTo_step (n : Nat) (args : List Int) (k : Nat) (h : ¬ (n = 60 ∧ k = 0)) : encTo n args (k + 1) = encTo n args k ++ encArg ((lettersOf n args.length).getD k 0) (args.getD k 0) := by
  show _ ++ _ ++ _ = _
  rw [if_neg h, List.append_nil]
theorem one_bad (n : Nat) (args : List Int) (k : Nat) (hT : thereB n = true) (hR : rowsOk n args.length = true) (hk : k < args.length)
    (hb : inK ((lettersOf n args.length).getD k 0) (args.getD k 0) = false) : oneL n args = ([], 2) := by
  have h : okTo n args args.length = false := by
    rw [Bool.eq_false_iff]
    intro h
    have := okTo_mono n args (j := k + 1) (by omega) h
    rw [okTo_succ, hb] at this
    simp at this
  unfold oneL
  simp [hT, hR, h]
theorem one_good (n : Nat) (args : List Int) (hT : thereB n = true) (hR : rowsOk n args.length = true) (hok : okTo n args args.length = true) (hr : rowsOf n args.length < 256) :
    oneL n args = (encTo n args args.length, 0) := by
  unfold oneL
  simp [hT, hR, hok, hr]
theorem one_long (n : Nat) (args : List Int) (hT : thereB n = true) (hR : rowsOk n args.length = true) (hok : okTo n args args.length = true) (hr : 256 ≤ rowsOf n args.length) :
    oneL n args = ([], 5) := by
  unfold oneL
  simp [hT, hR, hok, hr]
end Go.Proofs.YtpfcojnkflcnoaaGreatDoor.K16
end
section

namespace Go.Proofs.YtpfcojnkflcnoaaGreatDoor.K16

/-- An instruction: its op, its numbers. -/
abbrev InsL := Nat × List Int
/-- The first error of a row of instructions; 0: none. -/
def errOf : List InsL → Int
  | [] => 0
  | i :: l => if (oneL i.1 i.2).2 ≠ 0 then (oneL i.1 i.2).2 else errOf l
def bytesOf (l : List InsL) : List UInt8 := l.flatMap fun i => (oneL i.1 i.2).1
def encodeL (l : List InsL) : List UInt8 × Int := if errOf l ≠ 0 then ([], errOf l) else if 65535 < (bytesOf l).length then ([], 5) else (bytesOf l, 0)

theorem oneL_short (n : Nat) (args : List Int) : (oneL n args).1.length ≤ 2308 := by
  unfold oneL
  by_cases h1 : thereB n = false
  · rw [if_pos h1]; simp
  · rw [if_neg h1]
    by_cases h2 : rowsOk n args.length = false
    · rw [if_pos h2]; simp
    · rw [if_neg h2]
      by_cases h3 : okTo n args args.length = false
      · rw [if_pos h3]; simp
      · rw [if_neg h3]
        by_cases h4 : 256 ≤ rowsOf n args.length
        · rw [if_pos h4]; simp
        · rw [if_neg h4]
          have := few_args n args.length (by simpa using h2) (by omega)
          have := encTo_short n args args.length
          simp only; omega
theorem bytesOf_short (l : List InsL) : (bytesOf l).length ≤ 2308 * l.length := by
  induction l with
  | nil => simp [bytesOf]
  | cons i l ih =>
    have h := oneL_short i.1 i.2
    unfold bytesOf at *
    simp only [List.flatMap_cons, List.length_append, List.length_cons]
    omega
theorem bytesOf_snoc (l : List InsL) (k : Nat) (h : k < l.length) : bytesOf (l.take (k + 1)) = bytesOf (l.take k) ++ (oneL (l.getD k (0, [])).1 (l.getD k (0, [])).2).1 := by
  unfold bytesOf
  rw [List.take_succ_eq_append_getElem h, List.flatMap_append]
  simp [List.getD_eq_getElem?_getD, List.getElem?_eq_getElem h]
theorem errOf_at : ∀ (l : List InsL) (k : Nat), k < l.length → errOf (l.take k) = 0 → (oneL (l.getD k (0, [])).1 (l.getD k (0, [])).2).2 ≠ 0 → errOf l = (oneL (l.getD k (0, [])).1 (l.getD k (0, [])).2).2
  | [], k, h, _, _ => by simp at h
  | i :: l, 0, _, _, he => by
    simp only [List.getD_cons_zero] at he
    simp [errOf, he]
  | i :: l, k + 1, h, h0, he => by
    simp only [List.take_succ_cons, errOf] at h0
    have hi : (oneL i.1 i.2).2 = 0 := by
      by_cases c : (oneL i.1 i.2).2 = 0
      · exact c
      · rw [if_pos c] at h0; exact absurd h0 c
    simp only [hi, ne_eq, not_true, if_false] at h0
    simp only [List.getD_cons_succ] at he ⊢
    simp only [errOf, hi, ne_eq, not_true, if_false]
    exact errOf_at l k (by simpa using h) h0 he
theorem errOf_next : ∀ (l : List InsL) (k : Nat), k < l.length → errOf (l.take k) = 0 → (oneL (l.getD k (0, [])).1 (l.getD k (0, [])).2).2 = 0 → errOf (l.take (k + 1)) = 0
  | [], k, h, _, _ => by simp at h
  | i :: l, 0, _, _, he => by
    simp only [List.getD_cons_zero] at he
    simp [errOf, he]
  | i :: l, k + 1, h, h0, he => by
    simp only [List.take_succ_cons, errOf] at h0
    have hi : (oneL i.1 i.2).2 = 0 := by
      by_cases c : (oneL i.1 i.2).2 = 0
      · exact c
      · rw [if_pos c] at h0; exact absurd h0 c
    simp only [hi, ne_eq, not_true, if_false] at h0
    simp only [List.getD_cons_succ] at he
    rw [List.take_succ_cons]
    simp only [errOf, hi, ne_eq, not_true, if_false]
    exact errOf_next l k (by simpa using h) h0 he
end Go.Proofs.YtpfcojnkflcnoaaGreatDoor.K16
end
section

namespace Go.Proofs.YtpfcojnkflcnoaaGreatDoor.K16

def sizeN (c : UInt8) : Nat := if c = 66 then 1 else 2
/-- What two bytes, or one, come to. -/
def readN (c : UInt8) (s : List UInt8) (nx : Nat) : Int :=
  if c = 66 then ((s.getD nx 0).toNat : Int)
  else if highK c < ((s.getD nx 0).toNat : Int) * 256 + ((s.getD (nx + 1) 0).toNat : Int) then ((s.getD nx 0).toNat : Int) * 256 + ((s.getD (nx + 1) 0).toNat : Int) - 65536
  else ((s.getD nx 0).toNat : Int) * 256 + ((s.getD (nx + 1) 0).toNat : Int)
def failsB (c : UInt8) (s : List UInt8) (nx : Nat) (bad : Bool) : Bool := bad || decide (s.length < nx + sizeN c)
/-- The state of a reading: how many rows there are, the next place, whether it has failed, the numbers. -/
structure RSt where
  rows : Nat
  nx : Nat
  bad : Bool
  args : List Int
def read1 (c : UInt8) (s : List UInt8) (t : RSt) : RSt :=
  if failsB c s t.nx t.bad then { t with bad := true, args := t.args ++ [0] } else { t with nx := t.nx + sizeN c, args := t.args ++ [readN c s t.nx] }
def readRows (s : List UInt8) (t : RSt) : RSt :=
  if failsB 66 s t.nx t.bad then { t with bad := true, rows := 0 } else { t with nx := t.nx + 1, rows := (s.getD t.nx 0).toNat }
def stepSt (op : Nat) (s : List UInt8) (k : Nat) (t : RSt) : RSt :=
  if op = 60 ∧ k = 0 then readRows s (read1 ((wholeL op t.rows).getD k 0) s t) else read1 ((wholeL op t.rows).getD k 0) s t
def stAt (op : Nat) (s : List UInt8) (nx0 : Nat) : Nat → RSt
  | 0 => ⟨0, nx0, false, []⟩
  | k + 1 => stepSt op s k (stAt op s nx0 k)

/-- What a reading of one number comes to: it, the next place, whether it has failed. -/
def readX (c : UInt8) (s : List UInt8) (nx : Nat) (bad : Bool) : Int × Nat × Bool := if failsB c s nx bad then (0, nx, true) else (readN c s nx, nx + sizeN c, bad)
theorem read1_eq (c : UInt8) (s : List UInt8) (rows nx : Nat) (bad : Bool) (args : List Int) : read1 c s ⟨rows, nx, bad, args⟩ = ⟨rows, (readX c s nx bad).2.1, (readX c s nx bad).2.2, args ++ [(readX c s nx bad).1]⟩ := by
  unfold read1 readX
  split <;> rfl
theorem readX_nx (c : UInt8) (s : List UInt8) (nx : Nat) (bad : Bool) (h : nx ≤ s.length) : (readX c s nx bad).2.1 ≤ s.length := by
  unfold readX failsB
  split
  · exact h
  · rename_i hh
    simp only [Bool.or_eq_true, decide_eq_true_eq, not_or] at hh
    simp only
    omega
theorem readRows_eq (s : List UInt8) (rows nx : Nat) (bad : Bool) (args : List Int) : readRows s ⟨rows, nx, bad, args⟩ = ⟨(readX 66 s nx bad).1.toNat, (readX 66 s nx bad).2.1, (readX 66 s nx bad).2.2, args⟩ := by
  unfold readRows readX
  split
  · rfl
  · show RSt.mk _ _ _ _ = RSt.mk (((s.getD nx 0).toNat : Int)).toNat (nx + 1) bad args
    rw [Int.toNat_natCast]
theorem readX_byte (s : List UInt8) (nx : Nat) (bad : Bool) : 0 ≤ (readX 66 s nx bad).1 ∧ (readX 66 s nx bad).1 ≤ 255 := by
  unfold readX
  split
  · simp
  · have := (s.getD nx 0).toNat_lt
    show (0 : Int) ≤ ((s.getD nx 0).toNat : Int) ∧ ((s.getD nx 0).toNat : Int) ≤ 255
    omega
theorem read1_rows (c : UInt8) (s : List UInt8) (t : RSt) : (read1 c s t).rows = t.rows := by unfold read1; split <;> rfl
theorem read1_len (c : UInt8) (s : List UInt8) (t : RSt) : (read1 c s t).args.length = t.args.length + 1 := by unfold read1; split <;> simp
theorem readRows_args (s : List UInt8) (t : RSt) : (readRows s t).args = t.args := by unfold readRows; split <;> rfl
theorem st_len (op : Nat) (s : List UInt8) (nx0 : Nat) : ∀ k, (stAt op s nx0 k).args.length = k
  | 0 => rfl
  | k + 1 => by
    show (stepSt op s k _).args.length = _
    unfold stepSt
    split
    · rw [readRows_args, read1_len, st_len op s nx0 k]
    · rw [read1_len, st_len op s nx0 k]
theorem readRows_rows (s : List UInt8) (t : RSt) : (readRows s t).rows ≤ 255 := by
  unfold readRows
  split
  · simp
  · have := (s.getD t.nx 0).toNat_lt
    simp only
    omega
theorem st_rows (op : Nat) (s : List UInt8) (nx0 : Nat) : ∀ k, (stAt op s nx0 k).rows ≤ 255
  | 0 => Nat.zero_le _
  | k + 1 => by
    show (stepSt op s k _).rows ≤ _
    unfold stepSt
    split
    · exact readRows_rows _ _
    · rw [read1_rows]; exact st_rows op s nx0 k
theorem read1_nx (c : UInt8) (s : List UInt8) (t : RSt) (h : t.nx ≤ s.length) : (read1 c s t).nx ≤ s.length := by
  unfold read1 failsB
  split
  · exact h
  · rename_i hh
    simp only [Bool.or_eq_true, decide_eq_true_eq, not_or] at hh
    simp only
    omega
theorem readRows_nx (s : List UInt8) (t : RSt) (h : t.nx ≤ s.length) : (readRows s t).nx ≤ s.length := by
  unfold readRows failsB
  split
  · exact h
  · rename_i hh
    simp only [Bool.or_eq_true, decide_eq_true_eq, not_or, sizeN] at hh
    simp only
    simp at hh
    omega
theorem st_nx (op : Nat) (s : List UInt8) (nx0 : Nat) (h : nx0 ≤ s.length) : ∀ k, (stAt op s nx0 k).nx ≤ s.length
  | 0 => h
  | k + 1 => by
    show (stepSt op s k _).nx ≤ _
    unfold stepSt
    split
    · exact readRows_nx _ _ (read1_nx _ _ _ (st_nx op s nx0 h k))
    · exact read1_nx _ _ _ (st_nx op s nx0 h k)
/-- How many rows a reading comes to in the end. -/
def endRows (op : Nat) (s : List UInt8) (nx0 : Nat) : Nat := if op = 60 then (stAt op s nx0 1).rows else 0
def endAt (op : Nat) (s : List UInt8) (nx0 : Nat) : Nat := (wholeL op (endRows op s nx0)).length
theorem st_end (op : Nat) (s : List UInt8) (nx0 : Nat) : ∀ k, (stAt op s nx0 (k + 1)).rows = endRows op s nx0
  | 0 => by
    unfold endRows
    split
    · rfl
    · rename_i h
      show (stepSt op s 0 _).rows = 0
      unfold stepSt
      rw [if_neg (fun hh => h hh.1), read1_rows]
      rfl
  | k + 1 => by
    show (stepSt op s (k + 1) _).rows = _
    unfold stepSt
    rw [if_neg (by omega), read1_rows]
    exact st_end op s nx0 k
theorem whole_le (op r : Nat) : (formL op).length ≤ (wholeL op r).length := by rw [whole_length]; omega
theorem st_more (op : Nat) (s : List UInt8) (nx0 j : Nat) (h : j < (wholeL op (stAt op s nx0 j).rows).length) : j + 1 ≤ endAt op s nx0 := by
  unfold endAt
  rcases j with _ | j
  · have h0 : 0 < (wholeL op 0).length := h
    rw [whole_length] at h0
    have := whole_le op (endRows op s nx0)
    omega
  · rw [st_end] at h; omega
theorem st_done (op : Nat) (s : List UInt8) (nx0 j : Nat) (h : ¬ j < (wholeL op (stAt op s nx0 j).rows).length) (hj : j ≤ endAt op s nx0) : j = endAt op s nx0 := by
  rcases j with _ | j
  · have h0 : ¬ 0 < (wholeL op 0).length := h
    rw [whole_length] at h0
    have hf : formL op = [] := List.eq_nil_of_length_eq_zero (by omega)
    have h60 : op ≠ 60 := by rintro rfl; rw [form60] at hf; cases hf
    unfold endAt endRows
    rw [if_neg h60, whole_length, hf]
    rfl
  · rw [st_end] at h
    unfold endAt at *
    omega
theorem end_few (op : Nat) (s : List UInt8) (nx0 : Nat) : endAt op s nx0 ≤ 769 := by
  unfold endAt
  rw [whole_length]
  have h1 := form_short op
  have h2 : endRows op s nx0 ≤ 255 := by
    unfold endRows
    split
    · exact st_rows op s nx0 1
    · omega
  omega
/-- Which instruction stands at a place of a text, where the next one begins, which error it is. -/
def decodeL (s : List UInt8) (at_ : Int) : InsL × Int × Int :=
  if at_ < 0 ∨ (s.length : Int) ≤ at_ then ((0, []), 0, 2)
  else if thereB (s.getD at_.toNat 0).toNat = false then ((0, []), 0, 160)
  else if (stAt (s.getD at_.toNat 0).toNat s (at_.toNat + 1) (endAt (s.getD at_.toNat 0).toNat s (at_.toNat + 1))).bad then ((0, []), 0, 7)
  else (((s.getD at_.toNat 0).toNat, (stAt (s.getD at_.toNat 0).toNat s (at_.toNat + 1) (endAt (s.getD at_.toNat 0).toNat s (at_.toNat + 1))).args),
    ((stAt (s.getD at_.toNat 0).toNat s (at_.toNat + 1) (endAt (s.getD at_.toNat 0).toNat s (at_.toNat + 1))).nx : Int), 0)
end Go.Proofs.YtpfcojnkflcnoaaGreatDoor.K16
end
section

namespace Go.Proofs.YtpfcojnkflcnoaaGreatDoor.K16

theorem read1_ge (c : UInt8) (s : List UInt8) (t : RSt) : t.nx ≤ (read1 c s t).nx := by unfold read1; split <;> simp
theorem readRows_ge (s : List UInt8) (t : RSt) : t.nx ≤ (readRows s t).nx := by unfold readRows; split <;> simp
theorem st_ge (op : Nat) (s : List UInt8) (nx0 : Nat) : ∀ k, nx0 ≤ (stAt op s nx0 k).nx
  | 0 => Nat.le_refl _
  | k + 1 => by
    have ih := st_ge op s nx0 k
    show nx0 ≤ (stepSt op s k _).nx
    unfold stepSt
    split
    · exact Nat.le_trans ih (Nat.le_trans (read1_ge _ _ _) (readRows_ge _ _))
    · exact Nat.le_trans ih (read1_ge _ _ _)
/-- What a reading that succeeds says of the next place. -/
theorem decode_next (s : List UInt8) (a : Nat) (ha : a < s.length) (h : (decodeL s a).2.2 = 0) : ∃ b : Nat, (decodeL s a).2.1 = b ∧ a < b ∧ b ≤ s.length ∧ (decodeL s a).1.1 < 256 ∧ (decodeL s a).1.2.length ≤ 769 := by
  unfold decodeL at h ⊢
  rw [if_neg (by omega)] at h ⊢
  rw [Int.toNat_natCast] at h ⊢
  by_cases hT : thereB (s.getD a 0).toNat = false
  · rw [if_pos hT] at h; simp at h
  · rw [if_neg hT] at h ⊢
    by_cases hb : (stAt (s.getD a 0).toNat s (a + 1) (endAt (s.getD a 0).toNat s (a + 1))).bad = true
    · rw [if_pos hb] at h; simp at h
    · rw [if_neg hb]
      refine ⟨_, rfl, ?_, st_nx _ _ _ (by omega) _, (s.getD a 0).toNat_lt, ?_⟩
      · have := st_ge (s.getD a 0).toNat s (a + 1) (endAt (s.getD a 0).toNat s (a + 1)); omega
      · show (stAt _ _ _ _).args.length ≤ 769
        rw [st_len]; exact end_few _ _ _
/-- All instructions from a place on; their places; the error, if there is one. -/
def allGo (s : List UInt8) : Nat → Nat → List InsL × List Int × Int
  | 0, _ => ([], [], 0)
  | f + 1, a =>
    if a < s.length then
      if (decodeL s a).2.2 ≠ 0 then ([], [], (decodeL s a).2.2)
      else if (allGo s f (decodeL s a).2.1.toNat).2.2 ≠ 0 then ([], [], (allGo s f (decodeL s a).2.1.toNat).2.2)
      else ((decodeL s a).1 :: (allGo s f (decodeL s a).2.1.toNat).1, (a : Int) :: (allGo s f (decodeL s a).2.1.toNat).2.1, 0)
    else ([], [], 0)
theorem allGo_succ (s : List UInt8) (f a : Nat) : allGo s (f + 1) a = if a < s.length then
      if (decodeL s a).2.2 ≠ 0 then ([], [], (decodeL s a).2.2)
      else if (allGo s f (decodeL s a).2.1.toNat).2.2 ≠ 0 then ([], [], (allGo s f (decodeL s a).2.1.toNat).2.2)
      else ((decodeL s a).1 :: (allGo s f (decodeL s a).2.1.toNat).1, (a : Int) :: (allGo s f (decodeL s a).2.1.toNat).2.1, 0)
    else ([], [], 0) := rfl
def allL (s : List UInt8) : List InsL × List Int × Int := if 65535 < s.length then ([], [], 5) else allGo s (s.length + 1) 0
/-- What has been read, ahead of what is still to be read. -/
def joinA (l : List InsL) (p : List Int) (r : List InsL × List Int × Int) : List InsL × List Int × Int := if r.2.2 ≠ 0 then ([], [], r.2.2) else (l ++ r.1, p ++ r.2.1, 0)
theorem all_err (s : List UInt8) (f a : Nat) (h : (allGo s f a).2.2 ≠ 0) : ([], [], (allGo s f a).2.2) = allGo s f a := by
  cases f with
  | zero => exact absurd rfl h
  | succ f =>
    rw [allGo_succ] at h ⊢
    split
    · split
      · rfl
      · split
        · rfl
        · rename_i h1 h2 h3; simp [h1, h2, h3] at h
    · rename_i h1; simp [h1] at h
theorem all_ok (s : List UInt8) (f a : Nat) (h : ¬ (allGo s f a).2.2 ≠ 0) : ([] ++ (allGo s f a).1, [] ++ (allGo s f a).2.1, (0 : Int)) = allGo s f a := by
  have e : (allGo s f a).2.2 = 0 := by simpa using h
  rw [List.nil_append, List.nil_append, ← e]
theorem join_nil (s : List UInt8) (f a : Nat) : joinA [] [] (allGo s f a) = allGo s f a := by
  unfold joinA
  split
  · rename_i h; exact all_err s f a h
  · rename_i h; exact all_ok s f a h
theorem join_end (s : List UInt8) (f a : Nat) (h : ¬ a < s.length) (l : List InsL) (p : List Int) : joinA l p (allGo s (f + 1) a) = (l, p, 0) := by
  rw [allGo_succ, if_neg h]; unfold joinA; simp
theorem join_err (s : List UInt8) (f a : Nat) (h : a < s.length) (he : (decodeL s a).2.2 ≠ 0) (l : List InsL) (p : List Int) : joinA l p (allGo s (f + 1) a) = ([], [], (decodeL s a).2.2) := by
  rw [allGo_succ, if_pos h, if_pos he]; unfold joinA; rw [if_pos he]
theorem join_step (s : List UInt8) (f a : Nat) (h : a < s.length) (he : (decodeL s a).2.2 = 0) (l : List InsL) (p : List Int) :
    joinA l p (allGo s (f + 1) a) = joinA (l ++ [(decodeL s a).1]) (p ++ [(a : Int)]) (allGo s f (decodeL s a).2.1.toNat) := by
  rw [allGo_succ, if_pos h, if_neg (by simp [he])]
  generalize allGo s f (decodeL s a).2.1.toNat = r
  unfold joinA
  by_cases hr : r.2.2 ≠ 0
  · simp [hr]
  · simp only [hr, if_false]
    simp
end Go.Proofs.YtpfcojnkflcnoaaGreatDoor.K16
end
section

namespace Go.Proofs.YtpfcojnkflcnoaaGreatDoor.K16

/-- The kind of the number at place k of an op's instruction. -/
def kindL (n k : Nat) : UInt8 := if k < (formL n).length then (formL n).getD k 0 else if (k - (formL n).length) % 3 = 2 then 74 else 87
theorem rep_at (r : Nat) : ∀ k, k < 3 * r → (Lib.repeatL [87, 87, 74] r).getD k 0 = if k % 3 = 2 then 74 else 87 := by
  induction r with
  | zero => intro k hk; omega
  | succ r ih =>
    intro k hk
    have e : Lib.repeatL [87, 87, 74] (r + 1) = [87, 87, 74] ++ Lib.repeatL [87, 87, 74] r := rfl
    rw [e, List.getD_eq_getElem?_getD]
    by_cases h3 : k < 3
    · rw [List.getElem?_append_left (by simpa using h3)]
      have : k = 0 ∨ k = 1 ∨ k = 2 := by omega
      rcases this with rfl | rfl | rfl <;> rfl
    · rw [List.getElem?_append_right (by simp; omega), ← List.getD_eq_getElem?_getD]
      have := ih (k - 3) (by omega)
      simp only [List.length_cons, List.length_nil] at this ⊢
      rw [this, show (k - 3) % 3 = k % 3 by omega]
theorem kind_whole (n r k : Nat) (h : k < (wholeL n r).length) : (wholeL n r).getD k 0 = kindL n k := by
  unfold kindL
  rw [whole_length] at h
  unfold wholeL
  rw [List.getD_eq_getElem?_getD]
  split
  · rename_i hk
    rw [List.getElem?_append_left hk, ← List.getD_eq_getElem?_getD]
  · rename_i hk
    rw [List.getElem?_append_right (by omega), ← List.getD_eq_getElem?_getD, rep_at r _ (by omega)]
theorem kind_letter (n k : Nat) : letter (kindL n k) := by
  unfold kindL
  split
  · rename_i h
    rw [List.getD_eq_getElem?_getD, List.getElem?_eq_getElem h]
    exact form_letters n _ (List.getElem_mem h)
  · split
    · exact .inr (.inr rfl)
    · exact .inr (.inl rfl)
theorem kind_letters (n len k : Nat) (h : rowsOk n len = true) (hk : k < len) : (lettersOf n len).getD k 0 = kindL n k := by
  unfold lettersOf
  exact kind_whole n _ k (by have := letters_length n len h; unfold lettersOf at this; omega)
end Go.Proofs.YtpfcojnkflcnoaaGreatDoor.K16
end
section

namespace Go.Proofs.YtpfcojnkflcnoaaGreatDoor.K16

theorem oneL_ok (n : Nat) (args : List Int) (h : (oneL n args).2 = 0) :
    thereB n = true ∧ rowsOk n args.length = true ∧ okTo n args args.length = true ∧ rowsOf n args.length < 256 ∧ (oneL n args).1 = encTo n args args.length := by
  unfold oneL at h ⊢
  by_cases h1 : thereB n = false
  · rw [if_pos h1] at h; simp at h
  · rw [if_neg h1] at h ⊢
    by_cases h2 : rowsOk n args.length = false
    · rw [if_pos h2] at h; simp at h
    · rw [if_neg h2] at h ⊢
      by_cases h3 : okTo n args args.length = false
      · rw [if_pos h3] at h; simp at h
      · rw [if_neg h3] at h ⊢
        by_cases h4 : 256 ≤ rowsOf n args.length
        · rw [if_pos h4] at h; simp at h
        · rw [if_neg h4]
          exact ⟨by simpa using h1, by simpa using h2, by simpa using h3, by omega, rfl⟩
theorem encTo_tail (n : Nat) (args : List Int) (k : Nat) : ∀ d, ∃ t, encTo n args (k + d) = encTo n args k ++ t
  | 0 => ⟨[], by simp⟩
  | d + 1 => by
    obtain ⟨t, ht⟩ := encTo_tail n args k d
    refine ⟨t ++ (encArg ((lettersOf n args.length).getD (k + d) 0) (args.getD (k + d) 0) ++ (if n = 60 ∧ k + d = 0 then [UInt8.ofNat (rowsOf n args.length)] else [])), ?_⟩
    rw [show k + (d + 1) = (k + d) + 1 from rfl]
    show encTo n args (k + d) ++ _ ++ _ = _
    rw [ht]
    simp [List.append_assoc]
theorem encArg_len (c : UInt8) (x : Int) : (encArg c x).length = sizeN c := by unfold encArg sizeN; split <;> rfl
theorem getD_app (a b : List UInt8) (j : Nat) : (a ++ b).getD (a.length + j) 0 = b.getD j 0 := by
  rw [List.getD_eq_getElem?_getD, List.getElem?_append_right (by omega), List.getD_eq_getElem?_getD]
  simp
theorem getD_left (a b : List UInt8) (j : Nat) (h : j < a.length) : (a ++ b).getD j 0 = a.getD j 0 := by
  rw [List.getD_eq_getElem?_getD, List.getElem?_append_left h, List.getD_eq_getElem?_getD]
theorem ofNat_toNat (v : Nat) (h : v < 256) : (UInt8.ofNat v).toNat = v := by
  simp [UInt8.toNat_ofNat']; omega
/-- What was written of a number is read as it. -/
theorem readN_enc (c : UInt8) (hc : letter c) (x : Int) (hx : inK c x = true) (p r : List UInt8) : readN c (p ++ (encArg c x ++ r)) p.length = x := by
  have h0 : ∀ j, j < (encArg c x).length → (p ++ (encArg c x ++ r)).getD (p.length + j) 0 = (encArg c x).getD j 0 := fun j hj => by rw [getD_app, getD_left _ _ _ hj]
  have hl := encArg_len c x
  unfold inK at hx
  simp only [Bool.and_eq_true, decide_eq_true_eq] at hx
  unfold readN
  rcases hc with rfl | rfl | rfl
  · rw [if_pos rfl]
    have := h0 0 (by rw [hl]; decide)
    rw [Nat.add_zero] at this
    rw [this]
    have hb : lowK 66 = 0 ∧ highK 66 = 255 := ⟨rfl, rfl⟩
    rw [hb.1, hb.2] at hx
    show ((UInt8.ofNat (x % 256).toNat).toNat : Int) = x
    rw [ofNat_toNat _ (by omega)]
    omega
  · rw [if_neg (by decide)]
    have e0 := h0 0 (by rw [hl]; decide)
    have e1 := h0 1 (by rw [hl]; decide)
    rw [Nat.add_zero] at e0
    rw [e0, e1]
    have hb : lowK 87 = 0 ∧ highK 87 = 65535 := ⟨rfl, rfl⟩
    rw [hb.1, hb.2] at hx
    rw [hb.2]
    have f0 : ((encArg 87 x).getD 0 0).toNat = (x / 256 % 256).toNat := by show (UInt8.ofNat _).toNat = _; rw [ofNat_toNat _ (by omega)]
    have f1 : ((encArg 87 x).getD 1 0).toNat = (x % 256).toNat := by show (UInt8.ofNat _).toNat = _; rw [ofNat_toNat _ (by omega)]
    rw [f0, f1]
    split <;> omega
  · rw [if_neg (by decide)]
    have e0 := h0 0 (by rw [hl]; decide)
    have e1 := h0 1 (by rw [hl]; decide)
    rw [Nat.add_zero] at e0
    rw [e0, e1]
    have hb : lowK 74 = -32768 ∧ highK 74 = 32767 := ⟨rfl, rfl⟩
    rw [hb.1, hb.2] at hx
    rw [hb.2]
    have f0 : ((encArg 74 x).getD 0 0).toNat = (x / 256 % 256).toNat := by show (UInt8.ofNat _).toNat = _; rw [ofNat_toNat _ (by omega)]
    have f1 : ((encArg 74 x).getD 1 0).toNat = (x % 256).toNat := by show (UInt8.ofNat _).toNat = _; rw [ofNat_toNat _ (by omega)]
    rw [f0, f1]
    split <;> omega
theorem read1_enc (c : UInt8) (hc : letter c) (x : Int) (hx : inK c x = true) (p r : List UInt8) (rows : Nat) (args : List Int) :
    read1 c (p ++ (encArg c x ++ r)) ⟨rows, p.length, false, args⟩ = ⟨rows, p.length + (encArg c x).length, false, args ++ [x]⟩ := by
  unfold read1 failsB
  rw [if_neg (by simp [encArg_len])]
  simp only
  rw [readN_enc c hc x hx p r, encArg_len]
theorem readRows_enc (v : Nat) (hv : v < 256) (p r : List UInt8) (rows : Nat) (args : List Int) :
    readRows (p ++ ([UInt8.ofNat v] ++ r)) ⟨rows, p.length, false, args⟩ = ⟨v, p.length + 1, false, args⟩ := by
  unfold readRows failsB
  rw [if_neg (by simp [sizeN])]
  have := getD_app p ([UInt8.ofNat v] ++ r) 0
  rw [Nat.add_zero] at this
  simp only
  rw [this]
  show RSt.mk (UInt8.ofNat v).toNat _ _ _ = _
  rw [ofNat_toNat v hv]
/-- The state of a reading, behind k numbers of what was written. -/
theorem st_enc (n : Nat) (args : List Int) (hR : rowsOk n args.length = true) (hok : okTo n args args.length = true) (hr : rowsOf n args.length < 256) (pre rest : List UInt8) : ∀ k, k ≤ args.length →
    stAt n (pre ++ (encTo n args args.length ++ rest)) (pre.length + 1) k = ⟨if k = 0 then 0 else rowsOf n args.length, pre.length + (encTo n args k).length, false, args.take k⟩
  | 0, _ => by simp [stAt, encTo]
  | k + 1, hk => by
    have ih := st_enc n args hR hok hr pre rest k (by omega)
    show stepSt n _ k _ = _
    rw [ih]
    have hlen := letters_length n args.length hR
    have hkl : k < (wholeL n (if k = 0 then 0 else rowsOf n args.length)).length := by
      rw [whole_length]
      unfold lettersOf at hlen
      rw [whole_length] at hlen
      split
      · rename_i h0
        subst h0
        by_cases h60 : n = 60
        · subst h60; rw [form60]; simp
        · unfold rowsOf at hlen; rw [if_neg h60] at hlen; omega
      · omega
    have hkind := kind_whole n _ k hkl
    have hlet := kind_letters n args.length k hR (by omega)
    have hin : inK (kindL n k) (args.getD k 0) = true := by
      have := okTo_mono n args (j := k + 1) (by omega) hok
      rw [okTo_succ, hlet] at this
      simp only [Bool.and_eq_true] at this
      exact this.2
    obtain ⟨t, ht⟩ := encTo_tail n args (k + 1) (args.length - (k + 1))
    rw [show k + 1 + (args.length - (k + 1)) = args.length by omega] at ht
    have htake : args.take k ++ [args.getD k 0] = args.take (k + 1) := by
      rw [List.take_succ_eq_append_getElem (by omega), List.getD_eq_getElem?_getD, List.getElem?_eq_getElem (by omega)]; rfl
    unfold stepSt
    by_cases hc : n = 60 ∧ k = 0
    · rw [if_pos hc]
      have he := encTo_case n args k hc
      rw [hlet] at he
      rw [hkind, ht, he]
      have e1 : pre ++ (encTo n args k ++ encArg (kindL n k) (args.getD k 0) ++ [UInt8.ofNat (rowsOf n args.length)] ++ t ++ rest) = (pre ++ encTo n args k) ++ (encArg (kindL n k) (args.getD k 0) ++ ([UInt8.ofNat (rowsOf n args.length)] ++ (t ++ rest))) := by simp [List.append_assoc]
      have e2 : pre.length + (encTo n args k).length = (pre ++ encTo n args k).length := by simp
      rw [e1, e2, read1_enc _ (kind_letter n k) _ hin]
      have e3 : (pre ++ encTo n args k) ++ (encArg (kindL n k) (args.getD k 0) ++ ([UInt8.ofNat (rowsOf n args.length)] ++ (t ++ rest))) = (pre ++ encTo n args k ++ encArg (kindL n k) (args.getD k 0)) ++ ([UInt8.ofNat (rowsOf n args.length)] ++ (t ++ rest)) := by simp [List.append_assoc]
      have e4 : (pre ++ encTo n args k).length + (encArg (kindL n k) (args.getD k 0)).length = (pre ++ encTo n args k ++ encArg (kindL n k) (args.getD k 0)).length := by simp [Nat.add_assoc]
      rw [e3, e4, readRows_enc _ hr, htake]
      simp
      omega
    · rw [if_neg hc]
      have he := encTo_step n args k hc
      rw [hlet] at he
      rw [hkind, ht, he]
      have e1 : pre ++ (encTo n args k ++ encArg (kindL n k) (args.getD k 0) ++ t ++ rest) = (pre ++ encTo n args k) ++ (encArg (kindL n k) (args.getD k 0) ++ (t ++ rest)) := by simp [List.append_assoc]
      have e2 : pre.length + (encTo n args k).length = (pre ++ encTo n args k).length := by simp
      rw [e1, e2, read1_enc _ (kind_letter n k) _ hin, htake]
      have hrows : (if k = 0 then 0 else rowsOf n args.length) = rowsOf n args.length := by
        split
        · rename_i h0; unfold rowsOf; rw [if_neg (fun h => hc ⟨h, h0⟩)]
        · rfl
      rw [hrows]
      simp
      omega
theorem encTo_pos (n : Nat) (args : List Int) (k : Nat) : 0 < (encTo n args k).length := by
  obtain ⟨t, ht⟩ := encTo_tail n args 0 k
  rw [Nat.zero_add] at ht
  rw [ht]
  simp [encTo]
/-- **An instruction that was written is read.** -/
theorem decode_enc (n : Nat) (hn : n < 256) (args : List Int) (h : (oneL n args).2 = 0) (pre rest : List UInt8) :
    decodeL (pre ++ ((oneL n args).1 ++ rest)) pre.length = ((n, args), ((pre.length + (oneL n args).1.length : Nat) : Int), 0) := by
  obtain ⟨hT, hR, hok, hr, he⟩ := oneL_ok n args h
  rw [he]
  have hp := encTo_pos n args args.length
  have hop : (pre ++ (encTo n args args.length ++ rest)).getD pre.length 0 = UInt8.ofNat n := by
    have h1 := getD_app pre (encTo n args args.length ++ rest) 0
    rw [Nat.add_zero] at h1
    rw [h1, getD_left _ _ _ hp]
    obtain ⟨t, ht⟩ := encTo_tail n args 0 args.length
    rw [Nat.zero_add] at ht
    rw [ht]
    rfl
  have hst := st_enc n args hR hok hr pre rest
  have hend : endAt n (pre ++ (encTo n args args.length ++ rest)) (pre.length + 1) = args.length := by
    have hrows : endRows n (pre ++ (encTo n args args.length ++ rest)) (pre.length + 1) = rowsOf n args.length := by
      unfold endRows
      by_cases h60 : n = 60
      · rw [if_pos h60]
        have h2 : 2 ≤ args.length := by
          unfold rowsOk at hR
          rw [if_pos h60] at hR
          simp only [decide_eq_true_eq] at hR
          exact hR.1
        rw [hst 1 (by omega)]
        simp
      · rw [if_neg h60]; unfold rowsOf; rw [if_neg h60]
    unfold endAt
    rw [hrows]
    exact letters_length n args.length hR
  unfold decodeL
  rw [if_neg (by simp; omega), Int.toNat_natCast, hop, ofNat_toNat n hn, if_neg (by simp [hT]), hend, hst args.length (Nat.le_refl _)]
  simp
theorem bytes_cons (i : InsL) (l : List InsL) : bytesOf (i :: l) = (oneL i.1 i.2).1 ++ bytesOf l := by simp [bytesOf]
theorem err_cons (i : InsL) (l : List InsL) (h : errOf (i :: l) = 0) : (oneL i.1 i.2).2 = 0 ∧ errOf l = 0 := by
  simp only [errOf] at h
  by_cases c : (oneL i.1 i.2).2 = 0
  · exact ⟨c, by simpa [c] using h⟩
  · rw [if_pos c] at h; exact absurd h c
/-- **Instructions that were written are read.** -/
theorem all_enc : ∀ (l : List InsL) (pre : List UInt8) (f : Nat), (∀ i ∈ l, i.1 < 256) → errOf l = 0 → (bytesOf l).length < f → ∃ p : List Int, allGo (pre ++ bytesOf l) f pre.length = (l, p, 0) ∧ p.length = l.length
  | [], pre, f, _, _, hf => by
    obtain ⟨f', rfl⟩ : ∃ f', f = f' + 1 := ⟨f - 1, by omega⟩
    rw [allGo_succ, if_neg (by simp [bytesOf])]
    exact ⟨[], rfl, rfl⟩
  | i :: l, pre, f, hi, he, hf => by
    obtain ⟨f', rfl⟩ : ∃ f', f = f' + 1 := ⟨f - 1, by omega⟩
    obtain ⟨h1, h2⟩ := err_cons i l he
    obtain ⟨n, args⟩ := i
    have hpos : 0 < (oneL n args).1.length := by rw [(oneL_ok n args h1).2.2.2.2]; exact encTo_pos _ _ _
    rw [bytes_cons] at hf ⊢
    simp only [List.length_append] at hf
    have hd := decode_enc n (hi (n, args) (List.mem_cons_self ..)) args h1 pre (bytesOf l)
    obtain ⟨p, hp, hl⟩ := all_enc l (pre ++ (oneL n args).1) f' (fun j hj => hi j (List.mem_cons_of_mem _ hj)) h2 (by omega)
    rw [List.append_assoc, List.length_append] at hp
    rw [allGo_succ, if_pos (by simp; omega), hd]
    simp only [Int.toNat_natCast]
    rw [hp]
    exact ⟨(pre.length : Int) :: p, by simp, by simp [hl]⟩
theorem all_encode (l : List InsL) (hi : ∀ i ∈ l, i.1 < 256) (a : List UInt8) (h : encodeL l = (a, 0)) : ∃ p : List Int, allL a = (l, p, 0) ∧ p.length = l.length := by
  unfold encodeL at h
  by_cases he : errOf l ≠ 0
  · rw [if_pos he] at h; simp at h; exact absurd h.2 he
  · rw [if_neg he] at h
    by_cases hl : 65535 < (bytesOf l).length
    · rw [if_pos hl] at h; simp at h
    · rw [if_neg hl] at h
      obtain rfl : bytesOf l = a := by simpa using h
      obtain ⟨p, hp, hpl⟩ := all_enc l [] ((bytesOf l).length + 1) hi (by simpa using he) (by omega)
      refine ⟨p, ?_, hpl⟩
      unfold allL
      rw [if_neg hl]
      simpa using hp
/-- Unlike rows have unlike bytes. -/
theorem encode_inj (l m : List InsL) (hl : ∀ i ∈ l, i.1 < 256) (hm : ∀ i ∈ m, i.1 < 256) (a b : List UInt8) (h : encodeL l = (a, 0)) (k : encodeL m = (b, 0)) : a = b ↔ l = m := by
  constructor
  · rintro rfl
    obtain ⟨p, hp, _⟩ := all_encode l hl a h
    obtain ⟨q, hq, _⟩ := all_encode m hm a k
    rw [hp] at hq
    simp at hq
    exact hq.1
  · rintro rfl
    rw [h] at k
    simp at k
    exact k
end Go.Proofs.YtpfcojnkflcnoaaGreatDoor.K16
end
/- Layer 16, bundled (printed by gen_k16.py): The walks of code.names and code.Name. Condition: the table strings.asciiSpace holds what its initialiser lays (Tab). · The walks of code.Form, code.rows. Condition: the table strings.asciiSpace holds what its initialiser lays (Tab). · The walks of code.Form, code.rows. Condition: the table strings.asciiSpace holds what its initialiser lays (Tab). · The walk of code.numbers; a look-up in what it makes. · The walks of code.whole; strings.Builder's WriteString at this dump, out of what the shelf lays for strings.Repeat. · The walk of number.bytes. No condition. -/
section

namespace Go.Proofs.YtpfcojnkflcnoaaGreatDoor.K16
open Go.RowKit
set_option maxRecDepth 100000

/-- The table of white ASCII characters, as it lies in memory. -/
def Tab (w : World) : Prop := ∀ c : Nat, c < 256 → w.cell? ⟨0, c, none⟩ = some (.int .u8 (if Lib.isSp (UInt8.ofNat c) then 1 else 0))
theorem Tab.pos {w : World} (h : Tab w) : 0 < w.heap.size := by
  have h0 := h 0 (by omega)
  rcases Nat.lt_or_ge 0 w.heap.size with hlt | hge
  · exact hlt
  · unfold World.cell? at h0; simp [Array.getElem?_eq_none hge] at h0
theorem Tab.below {w w' : World} {B : Nat} (h : Tab w) (hb : Below B w w') (hB : 0 < B) : Tab w' := fun c hc => (hb.cell (p := ⟨0, c, none⟩) hB).trans (h c hc)
theorem Tab.later {w w' : World} (h : Tab w) (hb : Below w.heap.size w w') : Tab w' := h.below hb h.pos
theorem Tab.alloc {w : World} (h : Tab w) (o : Obj) : Tab (w.alloc o) := h.later ((Below.refl _ _).alloc (Nat.le_refl _) o)
theorem Tab.drew {w : World} (h : Tab w) : Tab w.drew := h

theorem fields_any (s : ByteArray) (w : World) (hs : s.size < 4294967281) (hascii : ∀ (j : Nat) b, s.data.toList[j]? = some b → b.toNat < 128) (ht : Tab w) :
    Calls Tryz.prog 191 #[.string s] w fun e w' =>
      e = .returned (.slice (some ⟨w.heap.size, 0, none⟩) (Lib.fields s.data.toList).length (Lib.fields s.data.toList).length) ∧ w' = w.alloc (.cells ((Lib.fields s.data.toList).map fun l => Value.string ⟨l.toArray⟩).toArray 9) :=
  Any.strings_Fields_core Tryz.lays157 (by kernel_rfl) s w hs hascii ht

/-- The cells that hold a list of names. -/
def nameCells (l : List (List UInt8)) : Array Value := (l.map fun x => Value.string ⟨x.toArray⟩).toArray

theorem of_all_lt (l : List UInt8) (h : (l.all fun b => b.toNat < 128) = true) (j : Nat) (b : UInt8) (hj : l[j]? = some b) : b.toNat < 128 := by
  have := List.all_eq_true.1 h b (List.mem_of_getElem? hj)
  simpa using this

theorem fields_ops (w : World) (ht : Tab w) :
    Calls Tryz.prog 191 #[.string ⟨#[105, 97, 100, 100, 32, 105, 115, 117, 98, 32, 105, 109, 117, 108, 32, 105, 100, 105, 118, 32, 105, 109, 111, 100, 32, 105, 110, 101, 103, 32, 105, 97, 98, 115, 32, 99, 97, 100, 100, 32, 99, 115, 117, 98, 32, 99, 109, 117, 108, 32, 99, 100, 105, 118, 32, 99, 109, 111, 100, 32, 101, 113, 32, 110, 101, 32, 105, 108, 116, 32, 105, 108, 101, 32, 105, 103, 116, 32, 105, 103, 101, 32, 99, 108, 116, 32, 99, 108, 101, 32, 99, 103, 116, 32, 99, 103, 101, 32, 110, 111, 116, 32, 111, 114, 32, 97, 110, 100, 110, 32, 97, 110, 100, 32, 120, 111, 114, 32, 105, 110, 32, 115, 117, 98, 32, 111, 110, 101, 32, 114, 111, 119]⟩] w fun e w' =>
      e = .returned (.slice (some ⟨w.heap.size, 0, none⟩) 31 31) ∧ w' = w.alloc (.cells (nameCells opsNames) 9) := by
  have hf : Lib.fields ([105, 97, 100, 100, 32, 105, 115, 117, 98, 32, 105, 109, 117, 108, 32, 105, 100, 105, 118, 32, 105, 109, 111, 100, 32, 105, 110, 101, 103, 32, 105, 97, 98, 115, 32, 99, 97, 100, 100, 32, 99, 115, 117, 98, 32, 99, 109, 117, 108, 32, 99, 100, 105, 118, 32, 99, 109, 111, 100, 32, 101, 113, 32, 110, 101, 32, 105, 108, 116, 32, 105, 108, 101, 32, 105, 103, 116, 32, 105, 103, 101, 32, 99, 108, 116, 32, 99, 108, 101, 32, 99, 103, 116, 32, 99, 103, 101, 32, 110, 111, 116, 32, 111, 114, 32, 97, 110, 100, 110, 32, 97, 110, 100, 32, 120, 111, 114, 32, 105, 110, 32, 115, 117, 98, 32, 111, 110, 101, 32, 114, 111, 119] : List UInt8) = opsNames := by decide +kernel
  have h := fields_any ⟨#[105, 97, 100, 100, 32, 105, 115, 117, 98, 32, 105, 109, 117, 108, 32, 105, 100, 105, 118, 32, 105, 109, 111, 100, 32, 105, 110, 101, 103, 32, 105, 97, 98, 115, 32, 99, 97, 100, 100, 32, 99, 115, 117, 98, 32, 99, 109, 117, 108, 32, 99, 100, 105, 118, 32, 99, 109, 111, 100, 32, 101, 113, 32, 110, 101, 32, 105, 108, 116, 32, 105, 108, 101, 32, 105, 103, 116, 32, 105, 103, 101, 32, 99, 108, 116, 32, 99, 108, 101, 32, 99, 103, 116, 32, 99, 103, 101, 32, 110, 111, 116, 32, 111, 114, 32, 97, 110, 100, 110, 32, 97, 110, 100, 32, 120, 111, 114, 32, 105, 110, 32, 115, 117, 98, 32, 111, 110, 101, 32, 114, 111, 119]⟩ w (by decide +kernel) (fun j b hj => of_all_lt _ (by decide +kernel) j b hj) ht
  rw [show Lib.fields (⟨#[105, 97, 100, 100, 32, 105, 115, 117, 98, 32, 105, 109, 117, 108, 32, 105, 100, 105, 118, 32, 105, 109, 111, 100, 32, 105, 110, 101, 103, 32, 105, 97, 98, 115, 32, 99, 97, 100, 100, 32, 99, 115, 117, 98, 32, 99, 109, 117, 108, 32, 99, 100, 105, 118, 32, 99, 109, 111, 100, 32, 101, 113, 32, 110, 101, 32, 105, 108, 116, 32, 105, 108, 101, 32, 105, 103, 116, 32, 105, 103, 101, 32, 99, 108, 116, 32, 99, 108, 101, 32, 99, 103, 116, 32, 99, 103, 101, 32, 110, 111, 116, 32, 111, 114, 32, 97, 110, 100, 110, 32, 97, 110, 100, 32, 120, 111, 114, 32, 105, 110, 32, 115, 117, 98, 32, 111, 110, 101, 32, 114, 111, 119]⟩ : ByteArray).data.toList = opsNames from hf] at h
  exact h

theorem fields_ins (w : World) (ht : Tab w) :
    Calls Tryz.prog 191 #[.string ⟨#[108, 105, 116, 32, 108, 103, 32, 115, 103, 32, 97, 103, 32, 108, 108, 32, 115, 108, 32, 97, 108, 32, 108, 105, 32, 115, 105, 32, 97, 100, 100, 32, 112, 116, 114, 32, 105, 120, 32, 105, 120, 111, 112, 32, 114, 97, 110, 103, 101, 32, 99, 111, 110, 118, 32, 106, 109, 112, 32, 106, 122, 32, 106, 110, 122, 32, 106, 122, 107, 32, 106, 110, 107, 32, 99, 97, 115, 101, 32, 109, 97, 114, 107, 32, 99, 97, 108, 108, 32, 99, 97, 108, 108, 120, 32, 99, 97, 108, 108, 102, 32, 114, 101, 116, 32, 114, 101, 116, 102, 32, 112, 114, 111, 99, 32, 100, 117, 112, 32, 100, 114, 111, 112, 32, 115, 119, 97, 112, 32, 109, 111, 118, 101, 32, 110, 101, 119, 32, 102, 114, 101, 101, 32, 114, 101, 97, 100, 32, 119, 114, 105, 116, 101, 32, 119, 114, 115, 32, 119, 114, 105, 32, 119, 114, 99, 32, 119, 114, 108, 110, 32, 116, 114, 97, 112, 32, 100, 117, 112, 120]⟩] w fun e w' =>
      e = .returned (.slice (some ⟨w.heap.size, 0, none⟩) 42 42) ∧ w' = w.alloc (.cells (nameCells insNames) 9) := by
  have hf : Lib.fields ([108, 105, 116, 32, 108, 103, 32, 115, 103, 32, 97, 103, 32, 108, 108, 32, 115, 108, 32, 97, 108, 32, 108, 105, 32, 115, 105, 32, 97, 100, 100, 32, 112, 116, 114, 32, 105, 120, 32, 105, 120, 111, 112, 32, 114, 97, 110, 103, 101, 32, 99, 111, 110, 118, 32, 106, 109, 112, 32, 106, 122, 32, 106, 110, 122, 32, 106, 122, 107, 32, 106, 110, 107, 32, 99, 97, 115, 101, 32, 109, 97, 114, 107, 32, 99, 97, 108, 108, 32, 99, 97, 108, 108, 120, 32, 99, 97, 108, 108, 102, 32, 114, 101, 116, 32, 114, 101, 116, 102, 32, 112, 114, 111, 99, 32, 100, 117, 112, 32, 100, 114, 111, 112, 32, 115, 119, 97, 112, 32, 109, 111, 118, 101, 32, 110, 101, 119, 32, 102, 114, 101, 101, 32, 114, 101, 97, 100, 32, 119, 114, 105, 116, 101, 32, 119, 114, 115, 32, 119, 114, 105, 32, 119, 114, 99, 32, 119, 114, 108, 110, 32, 116, 114, 97, 112, 32, 100, 117, 112, 120] : List UInt8) = insNames := by decide +kernel
  have h := fields_any ⟨#[108, 105, 116, 32, 108, 103, 32, 115, 103, 32, 97, 103, 32, 108, 108, 32, 115, 108, 32, 97, 108, 32, 108, 105, 32, 115, 105, 32, 97, 100, 100, 32, 112, 116, 114, 32, 105, 120, 32, 105, 120, 111, 112, 32, 114, 97, 110, 103, 101, 32, 99, 111, 110, 118, 32, 106, 109, 112, 32, 106, 122, 32, 106, 110, 122, 32, 106, 122, 107, 32, 106, 110, 107, 32, 99, 97, 115, 101, 32, 109, 97, 114, 107, 32, 99, 97, 108, 108, 32, 99, 97, 108, 108, 120, 32, 99, 97, 108, 108, 102, 32, 114, 101, 116, 32, 114, 101, 116, 102, 32, 112, 114, 111, 99, 32, 100, 117, 112, 32, 100, 114, 111, 112, 32, 115, 119, 97, 112, 32, 109, 111, 118, 101, 32, 110, 101, 119, 32, 102, 114, 101, 101, 32, 114, 101, 97, 100, 32, 119, 114, 105, 116, 101, 32, 119, 114, 115, 32, 119, 114, 105, 32, 119, 114, 99, 32, 119, 114, 108, 110, 32, 116, 114, 97, 112, 32, 100, 117, 112, 120]⟩ w (by decide +kernel) (fun j b hj => of_all_lt _ (by decide +kernel) j b hj) ht
  rw [show Lib.fields (⟨#[108, 105, 116, 32, 108, 103, 32, 115, 103, 32, 97, 103, 32, 108, 108, 32, 115, 108, 32, 97, 108, 32, 108, 105, 32, 115, 105, 32, 97, 100, 100, 32, 112, 116, 114, 32, 105, 120, 32, 105, 120, 111, 112, 32, 114, 97, 110, 103, 101, 32, 99, 111, 110, 118, 32, 106, 109, 112, 32, 106, 122, 32, 106, 110, 122, 32, 106, 122, 107, 32, 106, 110, 107, 32, 99, 97, 115, 101, 32, 109, 97, 114, 107, 32, 99, 97, 108, 108, 32, 99, 97, 108, 108, 120, 32, 99, 97, 108, 108, 102, 32, 114, 101, 116, 32, 114, 101, 116, 102, 32, 112, 114, 111, 99, 32, 100, 117, 112, 32, 100, 114, 111, 112, 32, 115, 119, 97, 112, 32, 109, 111, 118, 101, 32, 110, 101, 119, 32, 102, 114, 101, 101, 32, 114, 101, 97, 100, 32, 119, 114, 105, 116, 101, 32, 119, 114, 115, 32, 119, 114, 105, 32, 119, 114, 99, 32, 119, 114, 108, 110, 32, 116, 114, 97, 112, 32, 100, 117, 112, 120]⟩ : ByteArray).data.toList = insNames from hf] at h
  exact h


set_option maxHeartbeats 400000 in
theorem names_any (w : World) (ht : Tab w) :
    Calls Tryz.prog 174 #[] w fun e w' => e = .returned (.tuple #[.slice (some ⟨w.heap.size, 0, none⟩) 31 31, .slice (some ⟨w.heap.size + 1, 0, none⟩) 42 42]) ∧
      w' = (w.alloc (.cells (nameCells opsNames) 9)).alloc (.cells (nameCells insNames) 9) := by
  go_enter Tryz.func174, Tryz.ntmps174
  go_wp2_with fail
  refine (fields_ops _ ht).mono ?_
  rintro e w' ⟨rfl, rfl⟩
  go_wp2_with fail
  refine (fields_ins _ (ht.alloc _)).mono ?_
  rintro e w' ⟨rfl, rfl⟩
  go_wp2_with fail
  go_ret2
  exact ⟨by simp, rfl⟩

theorem cell_names (w : World) (l : List (List UInt8)) (j : Nat) (hj : j < l.length) (B : Nat) (hB : w.heap[B]? = some (.cells (nameCells l) 9)) : w.cell? ⟨B, j, none⟩ = some (.string ⟨(l.getD j []).toArray⟩) := by
  unfold World.cell?
  simp [hB, nameCells, hj]

/-- The world behind code.names. -/
def namesW (w : World) : World := (w.alloc (.cells (nameCells opsNames) 9)).alloc (.cells (nameCells insNames) 9)
theorem namesW_below (w : World) : Below w.heap.size w (namesW w) := ((Below.refl _ _).alloc (Nat.le_refl _) _).alloc (by simp) _
theorem cell_ops (w : World) (j : Nat) (hj : j < 31) : ((w.alloc (.cells (nameCells opsNames) 9)).alloc (.cells (nameCells insNames) 9)).cell? ⟨w.heap.size, j, none⟩ = some (.string ⟨(opsNames.getD j []).toArray⟩) :=
  cell_names _ opsNames j (by simpa [opsNames] using hj) _ ((Below.heap_alloc _ _ _ (by simp)).trans (heap_alloc_new w _))
theorem cell_ins (w : World) (j : Nat) (hj : j < 42) : ((w.alloc (.cells (nameCells opsNames) 9)).alloc (.cells (nameCells insNames) 9)).cell? ⟨w.heap.size + 1, j, none⟩ = some (.string ⟨(insNames.getD j []).toArray⟩) :=
  cell_names _ insNames j (by simpa [insNames] using hj) _ ((show _ = _ by simp).trans (heap_alloc_new (w.alloc (.cells (nameCells opsNames) 9)) _))

set_option maxHeartbeats 400000 in
theorem name_any (n : Nat) (hn : n < 256) (w : World) (ht : Tab w) :
    Calls Tryz.prog 114 #[.int .u8 n] w fun e w' => e = .returned (.string ⟨(nameL n).toArray⟩) ∧ Below w.heap.size w w' := by
  have hb := Lib.hid (namesW_below w)
  by_cases h1 : 1 ≤ n ∧ n ≤ 31
  · have hL := Lib.hid (show nameL n = opsNames.getD (n - 1) [] by unfold nameL; exact if_pos h1)
    obtain ⟨h1, h2⟩ := h1
    have hc := cell_ops w (n - 1) (by omega)
    go_enter Tryz.func114, Tryz.ntmps114
    go_wp2_with fail
    refine (names_any _ ht).mono ?_
    rintro e w' ⟨rfl, rfl⟩
    go_wp2_with fail
    go_ret
    exact ⟨by rw [hL.out]; simp, hb.out⟩
  · by_cases h2 : 40 ≤ n ∧ n ≤ 81
    · have hL := Lib.hid (show nameL n = insNames.getD (n - 40) [] by unfold nameL; rw [if_neg h1]; exact if_pos h2)
      obtain ⟨h2, h3⟩ := h2
      have h1' : 31 < n := by omega
      clear h1
      have hc := cell_ins w (n - 40) (by omega)
      go_enter Tryz.func114, Tryz.ntmps114
      go_wp2_with fail
      refine (names_any _ ht).mono ?_
      rintro e w' ⟨rfl, rfl⟩
      go_wp2_with fail
      go_ret
      exact ⟨by rw [hL.out]; simp, hb.out⟩
    · have hL := Lib.hid (show nameL n = [] by unfold nameL; rw [if_neg h1, if_neg h2])
      go_enter Tryz.func114, Tryz.ntmps114
      go_wp2_with fail
      refine (names_any _ ht).mono ?_
      rintro e w' ⟨rfl, rfl⟩
      go_wp2_with fail
      all_goals first | omega | skip
      all_goals
        go_ret
        exact ⟨by rw [hL.out]; simp, hb.out⟩
end Go.Proofs.YtpfcojnkflcnoaaGreatDoor.K16
end
section

namespace Go.Proofs.YtpfcojnkflcnoaaGreatDoor.K16
open Go.RowKit
set_option maxRecDepth 100000

theorem empty_beq (n : Nat) (h : n < 256) : (!(nameL n).isEmpty) = thereB n := by rw [name_there n h]; simp

theorem formL_nil (n : Nat) (h40 : ((n : Int) == 40) = false) (h47 : ((n : Int) == 47) = false) (h48 : ((n : Int) == 48) = false) (h49 : ((n : Int) == 49) = false) (h52 : ((n : Int) == 52) = false) (h71 : ((n : Int) == 71) = false) (h72 : ((n : Int) == 72) = false) (h41 : ((n : Int) == 41) = false) (h42 : ((n : Int) == 42) = false) (h43 : ((n : Int) == 43) = false) (h44 : ((n : Int) == 44) = false) (h45 : ((n : Int) == 45) = false) (h46 : ((n : Int) == 46) = false) (h62 : ((n : Int) == 62) = false) (h63 : ((n : Int) == 63) = false) (h67 : ((n : Int) == 67) = false) (h51 : ((n : Int) == 51) = false) (h53 : ((n : Int) == 53) = false) (h55 : ((n : Int) == 55) = false) (h56 : ((n : Int) == 56) = false) (h57 : ((n : Int) == 57) = false) (h58 : ((n : Int) == 58) = false) (h59 : ((n : Int) == 59) = false) (h64 : ((n : Int) == 64) = false) (h80 : ((n : Int) == 80) = false) (h60 : ((n : Int) == 60) = false) : formL n = [] := by
  simp only [beq_eq_false_iff_ne, ne_eq] at h40 h47 h48 h49 h52 h71 h72 h41 h42 h43 h44 h45 h46 h62 h63 h67 h51 h53 h55 h56 h57 h58 h59 h64 h80 h60
  unfold formL wOps bwOps jOps
  simp only [List.mem_cons, List.not_mem_nil, or_false]
  repeat rw [if_neg (by omega)]

set_option maxHeartbeats 1000000 in
theorem form_any (n : Nat) (hn : n < 256) (w : World) (ht : Tab w) :
    Calls Tryz.prog 175 #[.int .u8 n] w fun e w' => e = .returned (.tuple #[.string ⟨(formL n).toArray⟩, .bool (thereB n)]) ∧ Below w.heap.size w w' := by
  go_enter Tryz.func175, Tryz.ntmps175
  go_wp2_with fail
  all_goals first
    | (rename_i h
       have h' := congrArg Int.toNat (eq_of_beq h)
       simp only [Int.toNat_natCast, Int.reduceToNat] at h'
       subst h'
       go_ret2
       exact ⟨rfl, Below.refl _ _⟩)
    | skip
  have hL := Lib.hid (formL_nil n (by assumption) (by assumption) (by assumption) (by assumption) (by assumption) (by assumption) (by assumption) (by assumption) (by assumption) (by assumption) (by assumption) (by assumption) (by assumption) (by assumption) (by assumption) (by assumption) (by assumption) (by assumption) (by assumption) (by assumption) (by assumption) (by assumption) (by assumption) (by assumption) (by assumption) (by assumption))
  refine (name_any n hn _ ht).mono ?_
  rintro e w' ⟨rfl, hb⟩
  have hT := Lib.hid (empty_beq n hn)
  go_wp2_with fail
  go_ret2
  exact ⟨by rw [hL.out, ← hT.out]; simp, hb⟩
end Go.Proofs.YtpfcojnkflcnoaaGreatDoor.K16
end
section

namespace Go.Proofs.YtpfcojnkflcnoaaGreatDoor.K16
open Go.RowKit
set_option maxRecDepth 100000


end Go.Proofs.YtpfcojnkflcnoaaGreatDoor.K16
end
section

namespace Go.Proofs.YtpfcojnkflcnoaaGreatDoor.K16
open Go.RowKit
set_option maxRecDepth 100000

theorem run_checkKey_i32 (b : Bool) (k : Int) (w : World) : (Instr.checkKey b 10000 21 (.int .i32 k)).run Tryz.prog w = .ok () w := by
  exact MapKept.run_checkKey Tryz.underlying21 (by trivial) b 9999
theorem run_findKey_i32 (k : Int) (es : List MapEntry) (r : Option (Nat × Value)) (h : Instr.findNow (.int .i32) (.int .i32 k) es 0 = some r) (w : World) : (Instr.findKey 21 (.int .i32 k) es).run Tryz.prog w = .ok r w := by
  simp [Instr.findKey, run_underlying Tryz.underlying21, h]
theorem push_set_last {α : Type} (a : Array α) (x y : α) : (a.push x).setIfInBounds a.size y = a.push y := by
  apply Array.ext'
  simp
theorem run_insert_i32 (w : World) (es : Array MapEntry) (c : Nat) (k : Int) (v : Value) (h : Instr.findNow (.int .i32) (.int .i32 k) es.toList 0 = some none) :
    (Instr.mapUpdate 173 (.map (some w.heap.size)) (.int .i32 k) v).run Tryz.prog (w.alloc (.map es c)) = .ok () (w.alloc (.map (es.push ⟨.int .i32 k, v, c⟩) (c + 1))) := by
  have hb := heap_alloc_new w (.map es c)
  simp [Instr.mapUpdate, run_underlying Tryz.underlying173, MapKept.run_getObj_map hb, run_checkKey_i32, run_findKey_i32 k _ _ h, MapKept.run_setObj_map _ hb, Result.andThen]
  show ({ w with heap := (w.heap.push (.map es c)).setIfInBounds w.heap.size _ } : World) = { w with heap := w.heap.push _ }
  rw [push_set_last]
/-- What code.numbers makes: the three kinds of numbers. -/
def numEntries : Array MapEntry := #[⟨.int .i32 66, .agg #[.int .i64 0, .int .i64 255, .int .i64 1], 0⟩, ⟨.int .i32 87, .agg #[.int .i64 0, .int .i64 65535, .int .i64 2], 1⟩, ⟨.int .i32 74, .agg #[.int .i64 (-32768), .int .i64 32767, .int .i64 2], 2⟩]

set_option maxHeartbeats 400000 in
theorem numbers_any (w : World) :
    Calls Tryz.prog 116 #[] w fun e w' => e = .returned (.map (some w.heap.size)) ∧ w' = w.alloc (.map numEntries 3) := by
  have hmm := @run_makeMap Tryz.prog
  have h1 := run_insert_i32 w #[] 0 66 (.agg #[.int .i64 0, .int .i64 255, .int .i64 1]) rfl
  have h2 := run_insert_i32 w #[⟨.int .i32 66, .agg #[.int .i64 0, .int .i64 255, .int .i64 1], 0⟩] 1 87 (.agg #[.int .i64 0, .int .i64 65535, .int .i64 2]) rfl
  have h3 := run_insert_i32 w #[⟨.int .i32 66, .agg #[.int .i64 0, .int .i64 255, .int .i64 1], 0⟩, ⟨.int .i32 87, .agg #[.int .i64 0, .int .i64 65535, .int .i64 2], 1⟩] 2 74 (.agg #[.int .i64 (-32768), .int .i64 32767, .int .i64 2]) rfl
  simp only [List.push_toArray, List.cons_append, List.nil_append] at h1 h2 h3
  go_enter Tryz.func116, Tryz.ntmps116
  go_wp2_with fail
  go_ret
  exact ⟨rfl, rfl⟩

theorem run_look_num (w : World) (r : Nat) (h : w.heap[r]? = some (.map numEntries 3)) (k : Int) (i : Nat) (v : Value) (hf : Instr.findNow (.int .i32) (.int .i32 k) numEntries.toList 0 = some (some (i, v))) :
    (Instr.lookup 173 (.map (some r)) (.int .i32 k) false).run Tryz.prog w = .ok v w := by
  simp [Instr.lookup, run_underlying Tryz.underlying173, MapKept.run_getObj_map h, run_checkKey_i32, run_findKey_i32 k _ _ hf, Result.andThen]
theorem look_B (w : World) (r : Nat) (h : w.heap[r]? = some (.map numEntries 3)) : (Instr.lookup 173 (.map (some r)) (.int .i32 66) false).run Tryz.prog w = .ok (.agg #[.int .i64 0, .int .i64 255, .int .i64 1]) w := run_look_num w r h 66 0 _ rfl
theorem look_W (w : World) (r : Nat) (h : w.heap[r]? = some (.map numEntries 3)) : (Instr.lookup 173 (.map (some r)) (.int .i32 87) false).run Tryz.prog w = .ok (.agg #[.int .i64 0, .int .i64 65535, .int .i64 2]) w := run_look_num w r h 87 1 _ rfl
theorem look_J (w : World) (r : Nat) (h : w.heap[r]? = some (.map numEntries 3)) : (Instr.lookup 173 (.map (some r)) (.int .i32 74) false).run Tryz.prog w = .ok (.agg #[.int .i64 (-32768), .int .i64 32767, .int .i64 2]) w := run_look_num w r h 74 2 _ rfl
end Go.Proofs.YtpfcojnkflcnoaaGreatDoor.K16
end
section

namespace Go.Proofs.YtpfcojnkflcnoaaGreatDoor.K16
open Go.RowKit Go.Shelf
set_option maxRecDepth 100000

theorem lays166 : Lays.n166 Tryz.prog Tryz.lays105_ren := { mixed := Tryz.lays105.mixed, f166 := Tryz.lays105.f166, f240 := Tryz.lays105.f240, f276 := Tryz.lays105.f276, t0 := Tryz.lays105.t0, a0 := Tryz.lays105.a0, z0 := Tryz.lays105.z0, v0 := Tryz.lays105.v0, t3 := Tryz.lays105.t3, a3 := Tryz.lays105.a3, z3 := Tryz.lays105.z3, v3 := Tryz.lays105.v3, t4 := Tryz.lays105.t4, a4 := Tryz.lays105.a4, z4 := Tryz.lays105.z4, v4 := Tryz.lays105.v4, t9 := Tryz.lays105.t9, a9 := Tryz.lays105.a9, z9 := Tryz.lays105.z9, v9 := Tryz.lays105.v9, t20 := Tryz.lays105.t20, a20 := Tryz.lays105.a20, z20 := Tryz.lays105.z20, v20 := Tryz.lays105.v20, t37 := Tryz.lays105.t37, a37 := Tryz.lays105.a37, z37 := Tryz.lays105.z37, v37 := Tryz.lays105.v37, t70 := Tryz.lays105.t70, a70 := Tryz.lays105.a70, z70 := Tryz.lays105.z70, v70 := Tryz.lays105.v70, t72 := Tryz.lays105.t72, a72 := Tryz.lays105.a72, z72 := Tryz.lays105.z72, v72 := Tryz.lays105.v72, t75 := Tryz.lays105.t75, a75 := Tryz.lays105.a75, z75 := Tryz.lays105.z75, v75 := Tryz.lays105.v75, t164 := Tryz.lays105.t164, a164 := Tryz.lays105.a164, z164 := Tryz.lays105.z164, v164 := Tryz.lays105.v164 }
theorem writeString (B b : Nat) (bs : List Value) (s : ByteArray) (w : World) (h : Lib.IsBuilder 131 5 B b bs w) (hlen : bs.length + s.size ≤ 140737488355328) (hBw : B ≤ w.heap.size) :
    Calls Tryz.prog 91 #[.pointer (some ⟨b, 0, none⟩), .string s] w fun e w' => e = .returned (.tuple #[.int .i64 s.size, .nilIface]) ∧ (Lib.BuilderAt 131 5 B b (.pointer (some ⟨b, 0, none⟩)) (bs ++ Lib.strCells s) w' ∧ Below B w w') :=
  Any.Builder_WriteString lays166 Tryz.Builder_Extra_105 B b bs s w h hlen hBw




theorem repeat_any (r : Nat) (hr : r ≤ 46912496118442) (w : World) :
    Calls Tryz.prog 176 #[.string ⟨#[87, 87, 74]⟩, .int .i64 r] w fun e w' => e = .returned (.string ⟨(Lib.repeatL [87, 87, 74] r).toArray⟩) ∧ Below w.heap.size w w' :=
  Tryz.strings_Repeat ⟨#[87, 87, 74]⟩ r w (by omega) (by show 3 * r ≤ _; omega)

theorem repeat_short (r : Nat) (hr : r ≤ 46912496118442) : (Lib.repeatL [87, 87, 74] r).length ≤ 140737488355326 := by
  rw [Lib.repeatL_length]; simp; omega

set_option maxHeartbeats 400000 in
theorem whole_any (n : Nat) (hn : n < 256) (r : Nat) (hr : r ≤ 46912496118442) (w : World) (ht : Tab w) :
    Calls Tryz.prog 117 #[.int .u8 n, .int .i64 r] w fun e w' => e = .returned (.string ⟨(wholeL n r).toArray⟩) ∧ Below w.heap.size w w' := by
  have h3 := form_short n
  have h4 := repeat_short r hr
  go_enter Tryz.func117, Tryz.ntmps117
  go_wp2_with fail
  refine (form_any n hn _ ht).mono ?_
  rintro e w1 ⟨rfl, hb⟩
  go_wp2_with fail
  refine (repeat_any r hr _).mono ?_
  rintro e w2 ⟨rfl, hb2⟩
  go_wp2_with fail
  go_ret
  exact ⟨by simp [wholeL], hb.trans (hb2.mono hb.size)⟩
end Go.Proofs.YtpfcojnkflcnoaaGreatDoor.K16
end
section

namespace Go.Proofs.YtpfcojnkflcnoaaGreatDoor.K16
open Go.RowKit
set_option maxRecDepth 100000

end Go.Proofs.YtpfcojnkflcnoaaGreatDoor.K16
end
/- Layer 16, bundled (printed by gen_k16.py): code.rows, number.bytes and the look-up at whatever letter; code.one where there is no such op, or not so many numbers. · code.one where its numbers are so many as they must be: the loop over the letters. · code.one where its rows are too many: the loop that only looks. · code.one at whatever instruction; code.Encode. · The closure of code.Decode that reads a number. -/
section

namespace Go.Proofs.YtpfcojnkflcnoaaGreatDoor.K16
open Go.RowKit
set_option maxRecDepth 100000

/-- A slice's address under which so many ints lie. -/
def Ints (w : World) (A : Option Addr) (xs : List Int) : Prop :=
  xs = [] ∨ ∃ b off, A = some ⟨b, off, none⟩ ∧ b < w.heap.size ∧ ∀ j, j < xs.length → w.cell? ⟨b, off + j, none⟩ = some (.int .i64 (xs.getD j 0))
theorem Ints.later {w w' : World} {A : Option Addr} {xs : List Int} {B : Nat} (h : Ints w A xs) (hb : Below B w w') (hB : w.heap.size ≤ B) : Ints w' A xs := by
  rcases h with h | ⟨b, off, e, hlt, hc⟩
  · exact .inl h
  · exact .inr ⟨b, off, e, Nat.lt_of_lt_of_le hlt hb.size, fun j hj => (hb.cell (p := ⟨b, off + j, none⟩) (Nat.lt_of_lt_of_le hlt hB)).trans (hc j hj)⟩
theorem Ints.at_ {w : World} {A : Option Addr} {xs : List Int} (h : Ints w A xs) {j : Nat} (hj : j < xs.length) :
    ∃ b off, A = some ⟨b, off, none⟩ ∧ b < w.heap.size ∧ w.cell? ⟨b, off + j, none⟩ = some (.int .i64 (xs.getD j 0)) := by
  rcases h with h | ⟨b, off, e, hlt, hc⟩
  · subst h; simp at hj
  · exact ⟨b, off, e, hlt, hc j hj⟩

theorem look_any (c : UInt8) (hc : letter c) (w : World) (r : Nat) (h : w.heap[r]? = some (.map numEntries 3)) :
    (Instr.lookup 173 (.map (some r)) (.int .i32 (c.toNat : Int)) false).run Tryz.prog w = .ok (.agg #[.int .i64 (lowK c), .int .i64 (highK c), .int .i64 (sizeK c)]) w := by
  rcases hc with rfl | rfl | rfl
  · exact look_B w r h
  · exact look_W w r h
  · exact look_J w r h

theorem name_empty (n : Nat) (hn : n < 256) : (nameL n).isEmpty = !thereB n := name_there n hn

/-- How a function that answers bytes and an error ends. -/
def OneEnd (w : World) (r : List UInt8 × Int) (e : Ending) (w' : World) : Prop := e = .returned (.tuple #[.string ⟨r.1.toArray⟩, .int .i64 r.2]) ∧ Below w.heap.size w w'

end Go.Proofs.YtpfcojnkflcnoaaGreatDoor.K16
end
section

namespace Go.Proofs.YtpfcojnkflcnoaaGreatDoor.K16
open Go.RowKit
set_option maxRecDepth 100000

/-- What holds of the world at each round's head: the box of the instruction, the map of the kinds, the iterator at its place; nothing old has turned. -/
def OneInv (w : World) (n : Nat) (A : Option Addr) (len cap m it : Nat) (S : List UInt8) (k : Nat) (wr : World) : Prop :=
  wr.cell? ⟨w.heap.size, 0, none⟩ = some (.int .u8 n) ∧ wr.cell? ⟨w.heap.size, 1, none⟩ = some (.slice A len cap) ∧ wr.heap[m]? = some (.map numEntries 3) ∧
    wr.heap[it]? = some (.stringIter ⟨S.toArray⟩ k) ∧ Below w.heap.size w wr
theorem lt_of_get {α : Type} {a : Array α} {i : Nat} {x : α} (h : a[i]? = some x) : i < a.size := by
  rcases Nat.lt_or_ge i a.size with h1 | h1
  · exact h1
  · rw [Array.getElem?_eq_none h1] at h; cases h
theorem OneInv.step {w wr : World} {n : Nat} {A : Option Addr} {len cap m it : Nat} {S : List UInt8} {k : Nat} (h : OneInv w n A len cap m it S k wr) (h1 : w.heap.size < m) (h2 : m < it) :
    OneInv w n A len cap m it S (k + 1) (wr.iterAt it ⟨S.toArray⟩ (k + 1)) := by
  obtain ⟨c0, c1, hm, hi, hb⟩ := h
  refine ⟨?_, ?_, ?_, Lib.iterAt_heap wr it _ k (k + 1) hi, Lib.below_iterAt hb (by omega) _ _⟩
  · rw [World.cell?_of_block (w := wr) (Lib.iterAt_other wr it w.heap.size _ _ (by omega))]; exact c0
  · rw [World.cell?_of_block (w := wr) (Lib.iterAt_other wr it w.heap.size _ _ (by omega))]; exact c1
  · rw [Lib.iterAt_other wr it m _ _ (by omega)]; exact hm
theorem OneInv.later {w wr wx : World} {n : Nat} {A : Option Addr} {len cap m it : Nat} {S : List UInt8} {k : Nat} (h : OneInv w n A len cap m it S k wr) (h1 : w.heap.size < m) (h2 : m < it) (hx : Below wr.heap.size wr wx) :
    OneInv w n A len cap m it S k wx := by
  obtain ⟨c0, c1, hm, hi, hb⟩ := h
  have hl := lt_of_get hi
  exact ⟨(hx.cell (p := ⟨w.heap.size, 0, none⟩) (by simp; omega)).trans c0, (hx.cell (p := ⟨w.heap.size, 1, none⟩) (by simp; omega)).trans c1,
    (hx.block m (by omega)).trans hm, (hx.block it hl).trans hi, hb.trans (hx.mono (by omega))⟩

theorem next_at {S : List UInt8} (wr : World) (it k : Nat) (h : wr.heap[it]? = some (.stringIter ⟨S.toArray⟩ k)) (hk : k < S.length) (hS : ∀ c ∈ S, letter c) :
    (Instr.next (.pointer (some ⟨it, 0, none⟩)) true 0).run Tryz.prog wr = .ok (.tuple #[.bool true, .int .i64 k, .int .i32 ((S.getD k 0).toNat : Int)]) (wr.iterAt it ⟨S.toArray⟩ (k + 1)) := by
  have e : (S.getD k 0) = S[k] := by rw [List.getD_eq_getElem?_getD, List.getElem?_eq_getElem hk]; rfl
  have hl : S[k].toNat < 128 := by rcases hS _ (List.getElem_mem hk) with h | h | h <;> rw [h] <;> decide
  rw [e]
  exact Lib.run_next_ascii_at wr it ⟨S.toArray⟩ k _ h (by simpa [ByteArray.size] using hk) (by show S.toArray[k].toNat < 128; simpa using hl)

end Go.Proofs.YtpfcojnkflcnoaaGreatDoor.K16
end
section

namespace Go.Proofs.YtpfcojnkflcnoaaGreatDoor.K16
open Go.RowKit
set_option maxRecDepth 100000

end Go.Proofs.YtpfcojnkflcnoaaGreatDoor.K16
end
section

namespace Go.Proofs.YtpfcojnkflcnoaaGreatDoor.K16
open Go.RowKit
set_option maxRecDepth 100000

/-- An instruction's two cells. -/
def InsAt (w : World) (b o : Nat) (i : InsL) : Prop :=
  ∃ A cap, w.cell? ⟨b, o, none⟩ = some (.int .u8 i.1) ∧ w.cell? ⟨b, o + 1, none⟩ = some (.slice A i.2.length cap) ∧ Ints w A i.2 ∧ i.1 < 256 ∧ i.2.length ≤ 17592186044416
/-- A slice's address under which so many instructions lie. -/
def Inss (w : World) (L : Option Addr) (l : List InsL) : Prop :=
  l = [] ∨ ∃ b off, L = some ⟨b, off, none⟩ ∧ b < w.heap.size ∧ ∀ j, j < l.length → InsAt w b (off + j * 2) (l.getD j (0, []))
theorem InsAt.later {w w' : World} {b o : Nat} {i : InsL} {B : Nat} (h : InsAt w b o i) (hb : Below B w w') (hB : w.heap.size ≤ B) (hlt : b < w.heap.size) : InsAt w' b o i := by
  obtain ⟨A, cap, h1, h2, h3, h4, h5⟩ := h
  exact ⟨A, cap, (hb.cell (p := ⟨b, o, none⟩) (Nat.lt_of_lt_of_le hlt hB)).trans h1, (hb.cell (p := ⟨b, o + 1, none⟩) (Nat.lt_of_lt_of_le hlt hB)).trans h2, h3.later hb hB, h4, h5⟩
theorem Inss.later {w w' : World} {L : Option Addr} {l : List InsL} {B : Nat} (h : Inss w L l) (hb : Below B w w') (hB : w.heap.size ≤ B) : Inss w' L l := by
  rcases h with h | ⟨b, off, e, hlt, hc⟩
  · exact .inl h
  · exact .inr ⟨b, off, e, Nat.lt_of_lt_of_le hlt hb.size, fun j hj => (hc j hj).later hb hB hlt⟩
theorem Inss.at_ {w : World} {L : Option Addr} {l : List InsL} (h : Inss w L l) {j : Nat} (hj : j < l.length) :
    ∃ b off, L = some ⟨b, off, none⟩ ∧ b < w.heap.size ∧ InsAt w b (off + j * 2) (l.getD j (0, [])) := by
  rcases h with h | ⟨b, off, e, hlt, hc⟩
  · subst h; simp at hj
  · exact ⟨b, off, e, hlt, hc j hj⟩

theorem own_later {w w' : World} {B : Nat} {e : TypeId} {size : Nat} {v : Value} {n : Nat} {xs : List Value} (h : w.ownsRow B e size v n xs) (hb : Below w.heap.size w w') : w'.ownsRow B e size v n xs := by
  refine ⟨h.1, ?_⟩
  rcases h.2 with hn | ⟨g, cap, cur, rfl, hB, hgg, rest⟩
  · exact .inl hn
  · exact .inr ⟨g, cap, cur, rfl, hB, (hb.block g (lt_of_get hgg)).trans hgg, rest⟩
theorem builderAt_later {T e : TypeId} {B b : Nat} {p : Value} {bs : List Value} {w w' : World} (h : Lib.BuilderAt T e B b p bs w) (hb : Below w.heap.size w w') : Lib.BuilderAt T e B b p bs w' := by
  obtain ⟨h1, v, h2, h3, h4⟩ := h
  exact ⟨h1, v, (hb.block b (lt_of_get h2)).trans h2, own_later h3 hb, h4⟩
theorem builder_later {T e : TypeId} {B b : Nat} {bs : List Value} {w w' : World} (h : Lib.IsBuilder T e B b bs w) (hb : Below w.heap.size w w') : Lib.IsBuilder T e B b bs w' := by
  rcases h with h | h
  · exact .inl (builderAt_later h hb)
  · exact .inr (builderAt_later h hb)

end Go.Proofs.YtpfcojnkflcnoaaGreatDoor.K16
end
section

namespace Go.Proofs.YtpfcojnkflcnoaaGreatDoor.K16
open Go.RowKit
set_option maxRecDepth 100000

theorem conv_bytes (X : World) (s : ByteArray) : ∃ capn wb, (convert 9 46 (.string s)).run Tryz.prog X = .ok (.slice (some ⟨X.heap.size, 0, none⟩) s.size capn) wb ∧
    Below X.heap.size X wb ∧ wb.heap.size = X.heap.size + 1 ∧ ∀ j, j < s.size → wb.cell? ⟨X.heap.size, j, none⟩ = some (.int .u8 (s.data.toList.getD j 0).toNat) :=
  ⟨_, _, Lib.run_convert_string_bytes X 9 46 5 s Tryz.underlying9 Tryz.underlying46 Tryz.underlying5,
    ⟨rfl, rfl, rfl, by rw [Lib.bytesWorld_size]; omega, fun k hk => Lib.bytesWorld_at_old X _ s k hk⟩, Lib.bytesWorld_size _ _ _, fun j hj => Lib.bytesWorld_cell X _ s j hj⟩

set_option maxHeartbeats 600000 in
theorem read_bad (lo hi sz : Int) (bb sb nb : Nat) (s : List UInt8) (nx : Nat) (bad : Bool) (w : World) (h : bad = true ∨ (s.length : Int) - nx < sz) (hs : s.length ≤ 4294967296) (hn : nx ≤ s.length)
    (c0 : w.cell? ⟨bb, 0, none⟩ = some (.bool bad)) (c1 : w.cell? ⟨sb, 0, none⟩ = some (.string ⟨s.toArray⟩)) (c2 : w.cell? ⟨nb, 0, none⟩ = some (.int .i64 nx)) (f0 : w.frozen? ⟨bb, 0, none⟩ = false)
    (hb0 : bb < w.heap.size) (hb1 : sb < w.heap.size) (hb2 : nb < w.heap.size) :
    Calls Tryz.prog 115 #[.agg #[.int .i64 lo, .int .i64 hi, .int .i64 sz], .pointer (some ⟨bb, 0, none⟩), .pointer (some ⟨sb, 0, none⟩), .pointer (some ⟨nb, 0, none⟩)] w fun e w' =>
      e = .returned (.int .i64 0) ∧ Below w.heap.size (w.setCell ⟨bb, 0, none⟩ (.bool true)) w' := by
  have hz : (w.setCell ⟨bb, 0, none⟩ (.bool true)).heap.size = w.heap.size := by simp
  have HZ := Lib.hid hz
  clear hz
  by_cases hbad : bad = true
  · subst hbad
    go_enter Tryz.func115, Tryz.ntmps115
    go_wp2_with fail
    go_ret
    exact ⟨rfl, (Below.refl _ _).alloc (by rw [HZ.out]; exact Nat.le_refl _) _⟩
  · have hf : bad = false := by simpa using hbad
    subst hf
    have hd : decide ((s.length : Int) - nx < sz) = true := by
      rcases h with h | h
      · cases h
      · simpa using h
    clear h hbad
    go_enter Tryz.func115, Tryz.ntmps115
    go_wp2_with fail
    go_ret
    exact ⟨rfl, (Below.refl _ _).alloc (by rw [HZ.out]; exact Nat.le_refl _) _⟩

theorem set_same {c : Array Value} {o : Nat} {v : Value} (h : c[o]? = some v) : c.setIfInBounds o v = c := by
  apply Array.ext_getElem?
  intro j
  rw [Array.getElem?_setIfInBounds]
  split
  · rename_i e
    subst e
    rw [if_pos (lt_of_get h), h]
  · rfl
theorem setCell_same {w : World} {a : Addr} {v : Value} (h : w.cell? a = some v) : w.setCell a v = w := by
  have hh : (w.setCell a v).heap = w.heap := by
    unfold World.setCell
    simp only
    apply Array.ext_getElem?
    intro i
    rw [Array.getElem?_modify]
    split
    · rename_i hi
      subst hi
      unfold World.cell? at h
      cases hb : w.heap[a.block]? with
      | none => rfl
      | some o =>
        rw [hb] at h
        cases o with
        | cells c t fz =>
          simp only [Option.map_some]
          by_cases hs : a.spot.isSome = true
          · simp [hs]
          · simp only [hs] at h ⊢
            simp only [if_false, Bool.false_eq_true] at h ⊢
            rw [set_same h]
        | _ => rfl
    · rfl
  show ({ w with heap := (w.setCell a v).heap } : World) = w
  rw [hh]
theorem below_set {B : Nat} {w w' : World} (h : Below B w w') (p : Addr) (v : Value) (_hp : p.block < w.heap.size) : Below B (w.setCell p v) (w'.setCell p v) := by
  refine ⟨h.os, h.tape, h.output, by simpa using h.size, fun k hk => ?_⟩
  unfold World.setCell
  simp only [Array.getElem?_modify]
  rw [h.block k hk]

theorem or_i64 (a b : Nat) (ha : a < 4294967296) (hb : b < 4294967296) : bits .or .i64 (a : Int) (b : Int) = ((a ||| b : Nat) : Int) := by
  have hx : a ||| b < 2 ^ 32 := Nat.or_lt_two_pow (by omega) (by omega)
  show IntKind.i64.wrap ((BitVec.ofInt 64 (a : Int) ||| BitVec.ofInt 64 (b : Int)).toNat : Int) = _
  rw [BitVec.toNat_or, ofInt_u64 a (by omega), ofInt_u64 b (by omega)]
  exact IntWalk.i64_in _ (by omega)
theorem or_zero_i64 (b : Nat) (hb : b < 256) : bits .or .i64 0 (b : Int) = (b : Int) := by
  have := or_i64 0 b (by omega) (by omega)
  simpa using this
theorem or_two_i64 (a b : Nat) (ha : a < 256) (hb : b < 256) : bits .or .i64 ((a : Int) * 256) (b : Int) = (a : Int) * 256 + b := by
  have h := or_i64 (a * 256) b (by omega) (by omega)
  have e : a * 256 ||| b = a * 256 + b := by
    have := Nat.shiftLeft_add_eq_or_of_lt (i := 8) (b := b) (by omega) a
    simpa [Nat.shiftLeft_eq] using this.symm
  rw [e] at h
  have e2 : ((a * 256 : Nat) : Int) = (a : Int) * 256 := by omega
  rw [e2] at h
  rw [h]
  omega
theorem ext_at (s : List UInt8) (nx sz j : Nat) (hj : j < sz) : ((⟨s.toArray⟩ : ByteArray).extract nx (nx + sz)).data.toList.getD j 0 = s.getD (nx + j) 0 := by
  rw [Lib.extract_data]
  simp [List.getD_eq_getElem?_getD, hj]
/-- How the reading of a number ends: its value, the place behind it. -/
def ReadEnd (w : World) (nb nx : Nat) (v : Int) (e : Ending) (w' : World) : Prop := e = .returned (.int .i64 v) ∧ Below w.heap.size (w.setCell ⟨nb, 0, none⟩ (.int .i64 nx)) w'
def beTo (a b : Int) : Nat → Int
  | 0 => 0
  | 1 => a
  | _ => a * 256 + b

set_option maxHeartbeats 600000 in
theorem read_ok (lo hi : Int) (sz : Nat) (hsz : sz = 1 ∨ sz = 2) (bb sb nb : Nat) (s : List UInt8) (nx : Nat) (w : World) (hs : s.length ≤ 4294967296) (hn : nx + sz ≤ s.length) (_hh : 0 ≤ hi) (_hh2 : hi ≤ 65535)
    (c0 : w.cell? ⟨bb, 0, none⟩ = some (.bool false)) (c1 : w.cell? ⟨sb, 0, none⟩ = some (.string ⟨s.toArray⟩)) (c2 : w.cell? ⟨nb, 0, none⟩ = some (.int .i64 nx)) (f0 : w.frozen? ⟨bb, 0, none⟩ = false) (f2 : w.frozen? ⟨nb, 0, none⟩ = false)
    (hb0 : bb < w.heap.size) (hb1 : sb < w.heap.size) (hb2 : nb < w.heap.size) (x0 x1 : Nat) (hx0 : (s.getD nx 0).toNat = x0) (hx1 : (s.getD (nx + 1) 0).toNat = x1) (v : Int) (hval : v = if hi < beTo x0 x1 sz then beTo x0 x1 sz - 65536 else beTo x0 x1 sz) :
    Calls Tryz.prog 115 #[.agg #[.int .i64 lo, .int .i64 hi, .int .i64 sz], .pointer (some ⟨bb, 0, none⟩), .pointer (some ⟨sb, 0, none⟩), .pointer (some ⟨nb, 0, none⟩)] w (ReadEnd w nb (nx + sz) v) := by
  have HVAL := Lib.hid hval
  have b0 := (s.getD nx 0).toNat_lt
  have b1 := (s.getD (nx + 1) 0).toNat_lt
  rw [hx0] at b0
  rw [hx1] at b1
  have HX0 := Lib.hid hx0
  have HX1 := Lib.hid hx1
  clear hval hx0 hx1
  have hv := setCell_same c0
  have hd : decide ((s.length : Int) - nx < sz) = false := by simp; omega
  obtain ⟨capn, wb, hconv, hbw, hzw, hcells⟩ := conv_bytes (w.alloc (.cells #[.int .i64 lo, .int .i64 hi, .int .i64 sz] 171)) ((⟨s.toArray⟩ : ByteArray).extract nx (nx + sz))
  have HBW := Lib.hid hbw
  have HZW := Lib.hid hzw
  have HC := Lib.hid hcells
  clear hbw hzw hcells
  go_enter Tryz.func115, Tryz.ntmps115
  go_wp2_with fail
  have hx : ((⟨s.toArray⟩ : ByteArray).extract nx (nx + sz)).size = sz := by simp [ByteArray.size]; omega
  have HX := Lib.hid hx
  clear hx
  have e0 : wb.cell? ⟨w.heap.size + 1, 0, none⟩ = some (.int .u8 x0) := by
    have := HC.out 0 (by rw [HX.out]; omega)
    rw [ext_at s nx sz 0 (by omega)] at this
    rw [← HX0.out]
    simpa using this
  have e1 : sz = 2 → wb.cell? ⟨w.heap.size + 1, 1, none⟩ = some (.int .u8 x1) := by
    intro h2
    have := HC.out 1 (by rw [HX.out]; omega)
    rw [ext_at s nx sz 1 (by omega)] at this
    rw [← HX1.out]
    simpa using this
  have e2 := box_cell HBW.out 0
  have e3 := box_cell HBW.out 1
  have e4 := box_cell HBW.out 2
  obtain ⟨hbw2, hz2⟩ := box_below HBW.out
  have e5 : wb.cell? ⟨nb, 0, none⟩ = some (.int .i64 nx) := (hbw2.cell (p := ⟨nb, 0, none⟩) hb2).trans c2
  have e6 : wb.frozen? ⟨nb, 0, none⟩ = false := (hbw2.frozen (p := ⟨nb, 0, none⟩) hb2).trans f2
  simp at e2 e3 e4
  have HB2 := Lib.hid hbw2
  have HV := Lib.hid hv
  clear HC HX HBW HZW hconv hbw2 hv c0 c1 c2 f0 f2
  go_loopg [5, 28] sz (fun g n i wr => ∃ k : Nat, k + g = sz ∧ i = .int .i64 k ∧ n = .int .i64 (beTo x0 x1 k) ∧ wr = wb)
  case atStart => exact ⟨0, by omega, rfl, rfl, rfl⟩
  case round =>
    obtain ⟨k, hk, rfl, rfl, rfl⟩ := hrel
    by_cases hlt : k < sz
    · have hkI : (k : Int) < (sz : Int) := by omega
      have hk2 : k = 0 ∨ k = 1 := by omega
      rcases hk2 with rfl | rfl
      · rw [show beTo (x0 : Int) (x1 : Int) 0 = 0 from rfl]
        clear e1 e5 e6 e2 e3 e4
        go_wp2_with fail
        go_roundg (gk - 1)
        case measure => omega
        case rel => exact ⟨1, by omega, rfl, by rw [or_zero_i64 x0 (by omega)]; rfl, rfl⟩
      · rw [show beTo (x0 : Int) (x1 : Int) 1 = x0 from rfl]
        have e1 := e1 (by omega)
        have d1 : decide ((1 : Int) < (sz : Int)) = true := by simp; omega
        clear e0 e5 e6 e2 e3 e4
        go_wp2_with fail
        go_roundg (gk - 1)
        case measure => omega
        case rel => exact ⟨2, by omega, rfl, by rw [or_two_i64 x0 x1 (by omega) (by omega)]; rfl, rfl⟩
    · obtain rfl : k = sz := by omega
      have hB : 0 ≤ beTo x0 x1 k ∧ beTo x0 x1 k ≤ 65535 := by
        rcases hsz with rfl | rfl
        · show (0 : Int) ≤ x0 ∧ (x0 : Int) ≤ 65535; omega
        · show (0 : Int) ≤ (x0 : Int) * 256 + x1 ∧ (x0 : Int) * 256 + x1 ≤ 65535; omega
      obtain ⟨hB1, hB2⟩ := hB
      have HSZ := Lib.hid hsz
      clear e0 e1 hlt hk hsz
      generalize beTo (x0 : Int) (x1 : Int) k = y at *
      by_cases hy : hi < y
      · have d1 : decide (hi < y) = true := by simpa using hy
        go_wp2_with fail
        go_ret
        exact ⟨by rw [HVAL.out, if_pos hy]; rfl, below_set HB2.out _ _ hb2⟩
      · have d1 : decide (hi < y) = false := by simpa using hy
        go_wp2_with fail
        go_ret
        exact ⟨by rw [HVAL.out, if_neg (by omega)]; rfl, below_set HB2.out _ _ hb2⟩
end Go.Proofs.YtpfcojnkflcnoaaGreatDoor.K16
end
