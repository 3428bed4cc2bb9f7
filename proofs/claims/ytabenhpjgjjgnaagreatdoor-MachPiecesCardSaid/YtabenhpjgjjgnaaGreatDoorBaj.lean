/- Layer 16, bundled. -/
import Derived.WalkKit
import Derived.Lib.Repeat
section
namespace Go.Proofs.YtabenhpjgjjgnaaGreatDoor.K16
def opsNames : List (List UInt8) := [[105, 97, 100, 100], [105, 115, 117, 98], [105, 109, 117, 108], [105, 100, 105, 118], [105, 109, 111, 100], [105, 110, 101, 103], [105, 97, 98, 115], [99, 97, 100, 100], [99, 115, 117, 98], [99, 109, 117, 108], [99, 100, 105, 118], [99, 109, 111, 100], [101, 113], [110, 101], [105, 108, 116], [105, 108, 101], [105, 103, 116], [105, 103, 101], [99, 108, 116], [99, 108, 101], [99, 103, 116], [99, 103, 101], [110, 111, 116], [111, 114], [97, 110, 100, 110], [97, 110, 100], [120, 111, 114], [105, 110], [115, 117, 98], [111, 110, 101], [114, 111, 119]]
def insNames : List (List UInt8) := [[108, 105, 116], [108, 103], [115, 103], [97, 103], [108, 108], [115, 108], [97, 108], [108, 105], [115, 105], [97, 100, 100], [112, 116, 114], [105, 120], [105, 120, 111, 112], [114, 97, 110, 103, 101], [99, 111, 110, 118], [106, 109, 112], [106, 122], [106, 110, 122], [106, 122, 107], [106, 110, 107], [99, 97, 115, 101], [109, 97, 114, 107], [99, 97, 108, 108], [99, 97, 108, 108, 120], [99, 97, 108, 108, 102], [114, 101, 116], [114, 101, 116, 102], [112, 114, 111, 99], [100, 117, 112], [100, 114, 111, 112], [115, 119, 97, 112], [109, 111, 118, 101], [110, 101, 119], [102, 114, 101, 101], [114, 101, 97, 100], [119, 114, 105, 116, 101], [119, 114, 115], [119, 114, 105], [119, 114, 99], [119, 114, 108, 110], [116, 114, 97, 112], [100, 117, 112, 120]]
def nameL (n : Nat) : List UInt8 := if 1 ≤ n ∧ n ≤ 31 then opsNames.getD (n - 1) [] else if 40 ≤ n ∧ n ≤ 81 then insNames.getD (n - 40) [] else []
def thereB (n : Nat) : Bool := (1 ≤ n && n ≤ 31) || (40 ≤ n && n ≤ 81)
def wOps : List Nat := [40, 47, 48, 49, 52, 71, 72]
def bwOps : List Nat := [41, 42, 43, 44, 45, 46, 62, 63, 67]
def jOps : List Nat := [55, 56, 57, 58, 59]
def formL (n : Nat) : List UInt8 :=
 if n ∈ wOps then [87] else if n ∈ bwOps then [66, 87] else if n = 51 then [66, 87, 87, 87] else if n = 53 then [66, 87, 87]
 else if n ∈ jOps then [74] else if n = 64 ∨ n = 80 then [66] else if n = 60 then [66, 74] else []
theorem name_there : ∀ n, n < 256 → ((nameL n).isEmpty = !thereB n) := by decide +kernel
theorem form_short (n : Nat) : (formL n).length ≤ 4 := by
 unfold formL
 repeat' split
 all_goals simp
end Go.Proofs.YtabenhpjgjjgnaaGreatDoor.K16
end
section
namespace Go.Proofs.YtabenhpjgjjgnaaGreatDoor.K16
def wholeL (n r : Nat) : List UInt8 := formL n ++ Lib.repeatL [87, 87, 74] r
def lowK (c : UInt8) : Int := if c = 74 then -32768 else 0
def highK (c : UInt8) : Int := if c = 66 then 255 else if c = 74 then 32767 else 65535
def sizeK (c : UInt8) : Int := if c = 66 then 1 else 2
def letter (c : UInt8) : Prop := c = 66 ∨ c = 87 ∨ c = 74
def inK (c : UInt8) (x : Int) : Bool := decide (lowK c ≤ x) && decide (x ≤ highK c)
def encArg (c : UInt8) (x : Int) : List UInt8 := if c = 66 then [UInt8.ofNat (x % 256).toNat] else [UInt8.ofNat (x / 256 % 256).toNat, UInt8.ofNat (x % 256).toNat]
def rowsOf (n len : Nat) : Nat := if n = 60 then (len - 2) / 3 else 0
def rowsOk (n len : Nat) : Bool := if n = 60 then decide (2 ≤ len ∧ (len - 2) % 3 = 0) else len == (formL n).length
def lettersOf (n len : Nat) : List UInt8 := wholeL n (rowsOf n len)
def okTo (n : Nat) (args : List Int) (k : Nat) : Bool := (List.range k).all fun j => inK ((lettersOf n args.length).getD j 0) (args.getD j 0)
def encTo (n : Nat) (args : List Int) : Nat → List UInt8
 | 0 => [UInt8.ofNat n]
 | k + 1 => encTo n args k ++ encArg ((lettersOf n args.length).getD k 0) (args.getD k 0) ++ (if n = 60 ∧ k = 0 then [UInt8.ofNat (rowsOf n args.length)] else [])
def oneL (n : Nat) (args : List Int) : List UInt8 × Int :=
 if thereB n = false then ([], 160) else if rowsOk n args.length = false then ([], 2)
 else if okTo n args args.length = false then ([], 2) else if 256 ≤ rowsOf n args.length then ([], 5) else (encTo n args args.length, 0)
theorem okTo_succ (n : Nat) (args : List Int) (k : Nat) : okTo n args (k + 1) = (okTo n args k && inK ((lettersOf n args.length).getD k 0) (args.getD k 0)) := by
 unfold okTo; rw [List.range_succ, List.all_append]; simp
theorem okTo_mono (n : Nat) (args : List Int) {j k : Nat} (h : j ≤ k) (hk : okTo n args k = true) : okTo n args j = true := by
 unfold okTo at *; rw [List.all_eq_true] at *
 intro x hx; exact hk x (by simp at *; omega)
theorem form_letters (n : Nat) : ∀ c ∈ formL n, letter c := by
 unfold formL letter
 repeat' split
 all_goals simp
theorem repeat_letters (r : Nat) : ∀ c ∈ Lib.repeatL [87, 87, 74] r, letter c := by
 induction r with
 | zero => simp [Lib.repeatL]
 | succ r ih =>
   intro c hc
   simp only [Lib.repeatL, List.mem_append, List.mem_cons, List.not_mem_nil, or_false] at hc
   rcases hc with (rfl | rfl | rfl) | hc
   ·exact .inr (.inl rfl)
   ·exact .inr (.inl rfl)
   ·exact .inr (.inr rfl)
   ·exact ih c hc
theorem whole_letters (n r : Nat) : ∀ c ∈ wholeL n r, letter c := by
 intro c hc
 rcases List.mem_append.1 hc with h | h
 ·exact form_letters n c h
 ·exact repeat_letters r c h
theorem whole_length (n r : Nat) : (wholeL n r).length = (formL n).length + 3 * r := by
 unfold wholeL; rw [List.length_append, Lib.repeatL_length]; simp; omega
theorem form60 : formL 60 = [66, 74] := by decide
theorem letters_length (n len : Nat) (h : rowsOk n len = true) : (lettersOf n len).length = len := by
 unfold lettersOf
 rw [whole_length]
 unfold rowsOk at h
 unfold rowsOf
 split at h
 ·rename_i h60; subst h60
  simp only [decide_eq_true_eq] at h
  rw [if_pos rfl, form60]; simp; omega
 ·rename_i h60
  rw [if_neg h60]; simp at h; omega
theorem encArg_short (c : UInt8) (x : Int) : (encArg c x).length ≤ 2 := by unfold encArg; split <;> simp
theorem few_args (n len : Nat) (h : rowsOk n len = true) (hr : rowsOf n len < 256) : len ≤ 769 := by
 have h1 := letters_length n len h
 unfold lettersOf at h1
 rw [whole_length] at h1
 have h2 := form_short n
 omega
theorem encTo_short (n : Nat) (args : List Int) (k : Nat) : (encTo n args k).length ≤ 3 * k + 1 := by
 induction k with
 | zero => simp [encTo]
 | succ k ih =>
   unfold encTo encArg
   simp only [List.length_append]
   split <;> split <;> simp <;> omega
theorem encTo_case (n : Nat) (args : List Int) (k : Nat) (h : n = 60 ∧ k = 0) : encTo n args (k + 1) = encTo n args k ++ encArg ((lettersOf n args.length).getD k 0) (args.getD k 0) ++ [UInt8.ofNat (rowsOf n args.length)] := by
 show _ ++ _ ++ _ = _
 rw [if_pos h]
theorem encTo_step (n : Nat) (args : List Int) (k : Nat) (h : ¬ (n = 60 ∧ k = 0)) : encTo n args (k + 1) = encTo n args k ++ encArg ((lettersOf n args.length).getD k 0) (args.getD k 0) := by
 show _ ++ _ ++ _ = _
 rw [if_neg h, List.append_nil]
theorem one_bad (n : Nat) (args : List Int) (k : Nat) (hT : thereB n = true) (hR : rowsOk n args.length = true) (hk : k < args.length)
 (hb : inK ((lettersOf n args.length).getD k 0) (args.getD k 0) = false) : oneL n args = ([], 2) := by
 have h : okTo n args args.length = false := by
  rw [Bool.eq_false_iff]
  intro h
  have := okTo_mono n args (j := k + 1) (by omega) h
  rw [okTo_succ, hb] at this
  simp at this
 unfold oneL
 simp [hT, hR, h]
theorem one_good (n : Nat) (args : List Int) (hT : thereB n = true) (hR : rowsOk n args.length = true) (hok : okTo n args args.length = true) (hr : rowsOf n args.length < 256) :
 oneL n args = (encTo n args args.length, 0) := by
 unfold oneL
 simp [hT, hR, hok, hr]
theorem one_long (n : Nat) (args : List Int) (hT : thereB n = true) (hR : rowsOk n args.length = true) (hok : okTo n args args.length = true) (hr : 256 ≤ rowsOf n args.length) :
 oneL n args = ([], 5) := by
 unfold oneL
 simp [hT, hR, hok, hr]
end Go.Proofs.YtabenhpjgjjgnaaGreatDoor.K16
end
section
namespace Go.Proofs.YtabenhpjgjjgnaaGreatDoor.K16
abbrev InsL := Nat × List Int
def errOf : List InsL → Int
 | [] => 0
 | i :: l => if (oneL i.1 i.2).2 ≠ 0 then (oneL i.1 i.2).2 else errOf l
def bytesOf (l : List InsL) : List UInt8 := l.flatMap fun i => (oneL i.1 i.2).1
def encodeL (l : List InsL) : List UInt8 × Int := if errOf l ≠ 0 then ([], errOf l) else if 65535 < (bytesOf l).length then ([], 5) else (bytesOf l, 0)
theorem oneL_short (n : Nat) (args : List Int) : (oneL n args).1.length ≤ 2308 := by
 unfold oneL
 by_cases h1 : thereB n = false
 ·rw [if_pos h1]; simp
 ·rw [if_neg h1]
  by_cases h2 : rowsOk n args.length = false
  ·rw [if_pos h2]; simp
  ·rw [if_neg h2]
   by_cases h3 : okTo n args args.length = false
   ·rw [if_pos h3]; simp
   ·rw [if_neg h3]
    by_cases h4 : 256 ≤ rowsOf n args.length
    ·rw [if_pos h4]; simp
    ·rw [if_neg h4]
     have := few_args n args.length (by simpa using h2) (by omega)
     have := encTo_short n args args.length
     simp only; omega
theorem bytesOf_short (l : List InsL) : (bytesOf l).length ≤ 2308 * l.length := by
 induction l with
 | nil => simp [bytesOf]
 | cons i l ih =>
   have h := oneL_short i.1 i.2
   unfold bytesOf at *
   simp only [List.flatMap_cons, List.length_append, List.length_cons]
   omega
theorem bytesOf_snoc (l : List InsL) (k : Nat) (h : k < l.length) : bytesOf (l.take (k + 1)) = bytesOf (l.take k) ++ (oneL (l.getD k (0, [])).1 (l.getD k (0, [])).2).1 := by
 unfold bytesOf
 rw [List.take_succ_eq_append_getElem h, List.flatMap_append]
 simp [List.getD_eq_getElem?_getD, List.getElem?_eq_getElem h]
theorem errOf_at : ∀ (l : List InsL) (k : Nat), k < l.length → errOf (l.take k) = 0 → (oneL (l.getD k (0, [])).1 (l.getD k (0, [])).2).2 ≠ 0 → errOf l = (oneL (l.getD k (0, [])).1 (l.getD k (0, [])).2).2
 | [], k, h, _, _ => by simp at h
 | i :: l, 0, _, _, he => by
   simp only [List.getD_cons_zero] at he
   simp [errOf, he]
 | i :: l, k + 1, h, h0, he => by
   simp only [List.take_succ_cons, errOf] at h0
   have hi : (oneL i.1 i.2).2 = 0 := by
    by_cases c : (oneL i.1 i.2).2 = 0
    ·exact c
    ·rw [if_pos c] at h0; exact absurd h0 c
   simp only [hi, ne_eq, not_true, if_false] at h0
   simp only [List.getD_cons_succ] at he ⊢
   simp only [errOf, hi, ne_eq, not_true, if_false]
   exact errOf_at l k (by simpa using h) h0 he
theorem errOf_next : ∀ (l : List InsL) (k : Nat), k < l.length → errOf (l.take k) = 0 → (oneL (l.getD k (0, [])).1 (l.getD k (0, [])).2).2 = 0 → errOf (l.take (k + 1)) = 0
 | [], k, h, _, _ => by simp at h
 | i :: l, 0, _, _, he => by
   simp only [List.getD_cons_zero] at he
   simp [errOf, he]
 | i :: l, k + 1, h, h0, he => by
   simp only [List.take_succ_cons, errOf] at h0
   have hi : (oneL i.1 i.2).2 = 0 := by
    by_cases c : (oneL i.1 i.2).2 = 0
    ·exact c
    ·rw [if_pos c] at h0; exact absurd h0 c
   simp only [hi, ne_eq, not_true, if_false] at h0
   simp only [List.getD_cons_succ] at he
   rw [List.take_succ_cons]
   simp only [errOf, hi, ne_eq, not_true, if_false]
   exact errOf_next l k (by simpa using h) h0 he
end Go.Proofs.YtabenhpjgjjgnaaGreatDoor.K16
end
section
namespace Go.Proofs.YtabenhpjgjjgnaaGreatDoor.K16
def sizeN (c : UInt8) : Nat := if c = 66 then 1 else 2
def readN (c : UInt8) (s : List UInt8) (nx : Nat) : Int :=
 if c = 66 then ((s.getD nx 0).toNat : Int)
 else if highK c < ((s.getD nx 0).toNat : Int) * 256 + ((s.getD (nx + 1) 0).toNat : Int) then ((s.getD nx 0).toNat : Int) * 256 + ((s.getD (nx + 1) 0).toNat : Int) - 65536
 else ((s.getD nx 0).toNat : Int) * 256 + ((s.getD (nx + 1) 0).toNat : Int)
def failsB (c : UInt8) (s : List UInt8) (nx : Nat) (bad : Bool) : Bool := bad || decide (s.length < nx + sizeN c)
structure RSt where
 rows : Nat
 nx : Nat
 bad : Bool
 args : List Int
def read1 (c : UInt8) (s : List UInt8) (t : RSt) : RSt :=
 if failsB c s t.nx t.bad then { t with bad := true, args := t.args ++ [0] } else { t with nx := t.nx + sizeN c, args := t.args ++ [readN c s t.nx] }
def readRows (s : List UInt8) (t : RSt) : RSt :=
 if failsB 66 s t.nx t.bad then { t with bad := true, rows := 0 } else { t with nx := t.nx + 1, rows := (s.getD t.nx 0).toNat }
def stepSt (op : Nat) (s : List UInt8) (k : Nat) (t : RSt) : RSt :=
 if op = 60 ∧ k = 0 then readRows s (read1 ((wholeL op t.rows).getD k 0) s t) else read1 ((wholeL op t.rows).getD k 0) s t
def stAt (op : Nat) (s : List UInt8) (nx0 : Nat) : Nat → RSt
 | 0 => ⟨0, nx0, false, []⟩
 | k + 1 => stepSt op s k (stAt op s nx0 k)
def readX (c : UInt8) (s : List UInt8) (nx : Nat) (bad : Bool) : Int × Nat × Bool := if failsB c s nx bad then (0, nx, true) else (readN c s nx, nx + sizeN c, bad)
theorem read1_eq (c : UInt8) (s : List UInt8) (rows nx : Nat) (bad : Bool) (args : List Int) : read1 c s ⟨rows, nx, bad, args⟩ = ⟨rows, (readX c s nx bad).2.1, (readX c s nx bad).2.2, args ++ [(readX c s nx bad).1]⟩ := by
 unfold read1 readX
 split <;> rfl
theorem readX_nx (c : UInt8) (s : List UInt8) (nx : Nat) (bad : Bool) (h : nx ≤ s.length) : (readX c s nx bad).2.1 ≤ s.length := by
 unfold readX failsB
 split
 ·exact h
 ·rename_i hh
  simp only [Bool.or_eq_true, decide_eq_true_eq, not_or] at hh
  simp only
  omega
theorem readRows_eq (s : List UInt8) (rows nx : Nat) (bad : Bool) (args : List Int) : readRows s ⟨rows, nx, bad, args⟩ = ⟨(readX 66 s nx bad).1.toNat, (readX 66 s nx bad).2.1, (readX 66 s nx bad).2.2, args⟩ := by
 unfold readRows readX
 split
 ·rfl
 ·show RSt.mk _ _ _ _ = RSt.mk (((s.getD nx 0).toNat : Int)).toNat (nx + 1) bad args
  rw [Int.toNat_natCast]
theorem readX_byte (s : List UInt8) (nx : Nat) (bad : Bool) : 0 ≤ (readX 66 s nx bad).1 ∧ (readX 66 s nx bad).1 ≤ 255 := by
 unfold readX
 split
 ·simp
 ·have := (s.getD nx 0).toNat_lt
  show (0 : Int) ≤ ((s.getD nx 0).toNat : Int) ∧ ((s.getD nx 0).toNat : Int) ≤ 255
  omega
theorem read1_rows (c : UInt8) (s : List UInt8) (t : RSt) : (read1 c s t).rows = t.rows := by unfold read1; split <;> rfl
theorem read1_len (c : UInt8) (s : List UInt8) (t : RSt) : (read1 c s t).args.length = t.args.length + 1 := by unfold read1; split <;> simp
theorem readRows_args (s : List UInt8) (t : RSt) : (readRows s t).args = t.args := by unfold readRows; split <;> rfl
theorem st_len (op : Nat) (s : List UInt8) (nx0 : Nat) : ∀ k, (stAt op s nx0 k).args.length = k
 | 0 => rfl
 | k + 1 => by
   show (stepSt op s k _).args.length = _
   unfold stepSt
   split
   ·rw [readRows_args, read1_len, st_len op s nx0 k]
   ·rw [read1_len, st_len op s nx0 k]
theorem readRows_rows (s : List UInt8) (t : RSt) : (readRows s t).rows ≤ 255 := by
 unfold readRows
 split
 ·simp
 ·have := (s.getD t.nx 0).toNat_lt
  simp only
  omega
theorem st_rows (op : Nat) (s : List UInt8) (nx0 : Nat) : ∀ k, (stAt op s nx0 k).rows ≤ 255
 | 0 => Nat.zero_le _
 | k + 1 => by
   show (stepSt op s k _).rows ≤ _
   unfold stepSt
   split
   ·exact readRows_rows _ _
   ·rw [read1_rows]; exact st_rows op s nx0 k
theorem read1_nx (c : UInt8) (s : List UInt8) (t : RSt) (h : t.nx ≤ s.length) : (read1 c s t).nx ≤ s.length := by
 unfold read1 failsB
 split
 ·exact h
 ·rename_i hh
  simp only [Bool.or_eq_true, decide_eq_true_eq, not_or] at hh
  simp only
  omega
theorem readRows_nx (s : List UInt8) (t : RSt) (h : t.nx ≤ s.length) : (readRows s t).nx ≤ s.length := by
 unfold readRows failsB
 split
 ·exact h
 ·rename_i hh
  simp only [Bool.or_eq_true, decide_eq_true_eq, not_or, sizeN] at hh
  simp only
  simp at hh
  omega
theorem st_nx (op : Nat) (s : List UInt8) (nx0 : Nat) (h : nx0 ≤ s.length) : ∀ k, (stAt op s nx0 k).nx ≤ s.length
 | 0 => h
 | k + 1 => by
   show (stepSt op s k _).nx ≤ _
   unfold stepSt
   split
   ·exact readRows_nx _ _ (read1_nx _ _ _ (st_nx op s nx0 h k))
   ·exact read1_nx _ _ _ (st_nx op s nx0 h k)
def endRows (op : Nat) (s : List UInt8) (nx0 : Nat) : Nat := if op = 60 then (stAt op s nx0 1).rows else 0
def endAt (op : Nat) (s : List UInt8) (nx0 : Nat) : Nat := (wholeL op (endRows op s nx0)).length
theorem st_end (op : Nat) (s : List UInt8) (nx0 : Nat) : ∀ k, (stAt op s nx0 (k + 1)).rows = endRows op s nx0
 | 0 => by
   unfold endRows
   split
   ·rfl
   ·rename_i h
    show (stepSt op s 0 _).rows = 0
    unfold stepSt
    rw [if_neg (fun hh => h hh.1), read1_rows]
    rfl
 | k + 1 => by
   show (stepSt op s (k + 1) _).rows = _
   unfold stepSt
   rw [if_neg (by omega), read1_rows]
   exact st_end op s nx0 k
theorem whole_le (op r : Nat) : (formL op).length ≤ (wholeL op r).length := by rw [whole_length]; omega
theorem st_more (op : Nat) (s : List UInt8) (nx0 j : Nat) (h : j < (wholeL op (stAt op s nx0 j).rows).length) : j + 1 ≤ endAt op s nx0 := by
 unfold endAt
 rcases j with _ | j
 ·have h0 : 0 < (wholeL op 0).length := h
  rw [whole_length] at h0
  have := whole_le op (endRows op s nx0)
  omega
 ·rw [st_end] at h; omega
theorem st_done (op : Nat) (s : List UInt8) (nx0 j : Nat) (h : ¬ j < (wholeL op (stAt op s nx0 j).rows).length) (hj : j ≤ endAt op s nx0) : j = endAt op s nx0 := by
 rcases j with _ | j
 ·have h0 : ¬ 0 < (wholeL op 0).length := h
  rw [whole_length] at h0
  have hf : formL op = [] := List.eq_nil_of_length_eq_zero (by omega)
  have h60 : op ≠ 60 := by rintro rfl; rw [form60] at hf; cases hf
  unfold endAt endRows
  rw [if_neg h60, whole_length, hf]
  rfl
 ·rw [st_end] at h
  unfold endAt at *
  omega
theorem end_few (op : Nat) (s : List UInt8) (nx0 : Nat) : endAt op s nx0 ≤ 769 := by
 unfold endAt
 rw [whole_length]
 have h1 := form_short op
 have h2 : endRows op s nx0 ≤ 255 := by
  unfold endRows
  split
  ·exact st_rows op s nx0 1
  ·omega
 omega
def decodeL (s : List UInt8) (at_ : Int) : InsL × Int × Int :=
 if at_ < 0 ∨ (s.length : Int) ≤ at_ then ((0, []), 0, 2)
 else if thereB (s.getD at_.toNat 0).toNat = false then ((0, []), 0, 160)
 else if (stAt (s.getD at_.toNat 0).toNat s (at_.toNat + 1) (endAt (s.getD at_.toNat 0).toNat s (at_.toNat + 1))).bad then ((0, []), 0, 7)
 else (((s.getD at_.toNat 0).toNat, (stAt (s.getD at_.toNat 0).toNat s (at_.toNat + 1) (endAt (s.getD at_.toNat 0).toNat s (at_.toNat + 1))).args),
  ((stAt (s.getD at_.toNat 0).toNat s (at_.toNat + 1) (endAt (s.getD at_.toNat 0).toNat s (at_.toNat + 1))).nx : Int), 0)
end Go.Proofs.YtabenhpjgjjgnaaGreatDoor.K16
end
section
namespace Go.Proofs.YtabenhpjgjjgnaaGreatDoor.K16
end Go.Proofs.YtabenhpjgjjgnaaGreatDoor.K16
end
section
namespace Go.Proofs.YtabenhpjgjjgnaaGreatDoor.K16
def kindL (n k : Nat) : UInt8 := if k < (formL n).length then (formL n).getD k 0 else if (k - (formL n).length) % 3 = 2 then 74 else 87
theorem rep_at (r : Nat) : ∀ k, k < 3 * r → (Lib.repeatL [87, 87, 74] r).getD k 0 = if k % 3 = 2 then 74 else 87 := by
 induction r with
 | zero => intro k hk; omega
 | succ r ih =>
   intro k hk
   have e : Lib.repeatL [87, 87, 74] (r + 1) = [87, 87, 74] ++ Lib.repeatL [87, 87, 74] r := rfl
   rw [e, List.getD_eq_getElem?_getD]
   by_cases h3 : k < 3
   ·rw [List.getElem?_append_left (by simpa using h3)]
    have : k = 0 ∨ k = 1 ∨ k = 2 := by omega
    rcases this with rfl | rfl | rfl <;> rfl
   ·rw [List.getElem?_append_right (by simp; omega), ← List.getD_eq_getElem?_getD]
    have := ih (k - 3) (by omega)
    simp only [List.length_cons, List.length_nil] at this ⊢
    rw [this, show (k - 3) % 3 = k % 3 by omega]
theorem kind_whole (n r k : Nat) (h : k < (wholeL n r).length) : (wholeL n r).getD k 0 = kindL n k := by
 unfold kindL
 rw [whole_length] at h
 unfold wholeL
 rw [List.getD_eq_getElem?_getD]
 split
 ·rename_i hk
  rw [List.getElem?_append_left hk, ← List.getD_eq_getElem?_getD]
 ·rename_i hk
  rw [List.getElem?_append_right (by omega), ← List.getD_eq_getElem?_getD, rep_at r _ (by omega)]
theorem kind_letter (n k : Nat) : letter (kindL n k) := by
 unfold kindL
 split
 ·rename_i h
  rw [List.getD_eq_getElem?_getD, List.getElem?_eq_getElem h]
  exact form_letters n _ (List.getElem_mem h)
 ·split
  ·exact .inr (.inr rfl)
  ·exact .inr (.inl rfl)
theorem kind_letters (n len k : Nat) (h : rowsOk n len = true) (hk : k < len) : (lettersOf n len).getD k 0 = kindL n k := by
 unfold lettersOf
 exact kind_whole n _ k (by have := letters_length n len h; unfold lettersOf at this; omega)
end Go.Proofs.YtabenhpjgjjgnaaGreatDoor.K16
end
section
namespace Go.Proofs.YtabenhpjgjjgnaaGreatDoor.K16
theorem oneL_ok (n : Nat) (args : List Int) (h : (oneL n args).2 = 0) :
 thereB n = true ∧ rowsOk n args.length = true ∧ okTo n args args.length = true ∧ rowsOf n args.length < 256 ∧ (oneL n args).1 = encTo n args args.length := by
 unfold oneL at h ⊢
 by_cases h1 : thereB n = false
 ·rw [if_pos h1] at h; simp at h
 ·rw [if_neg h1] at h ⊢
  by_cases h2 : rowsOk n args.length = false
  ·rw [if_pos h2] at h; simp at h
  ·rw [if_neg h2] at h ⊢
   by_cases h3 : okTo n args args.length = false
   ·rw [if_pos h3] at h; simp at h
   ·rw [if_neg h3] at h ⊢
    by_cases h4 : 256 ≤ rowsOf n args.length
    ·rw [if_pos h4] at h; simp at h
    ·rw [if_neg h4]
     exact ⟨by simpa using h1, by simpa using h2, by simpa using h3, by omega, rfl⟩
theorem encTo_tail (n : Nat) (args : List Int) (k : Nat) : ∀ d, ∃ t, encTo n args (k + d) = encTo n args k ++ t
 | 0 => ⟨[], by simp⟩
 | d + 1 => by
   obtain ⟨t, ht⟩ := encTo_tail n args k d
   refine ⟨t ++ (encArg ((lettersOf n args.length).getD (k + d) 0) (args.getD (k + d) 0) ++ (if n = 60 ∧ k + d = 0 then [UInt8.ofNat (rowsOf n args.length)] else [])), ?_⟩
   rw [show k + (d + 1) = (k + d) + 1 from rfl]
   show encTo n args (k + d) ++ _ ++ _ = _
   rw [ht]
   simp [List.append_assoc]
theorem encArg_len (c : UInt8) (x : Int) : (encArg c x).length = sizeN c := by unfold encArg sizeN; split <;> rfl
theorem getD_app (a b : List UInt8) (j : Nat) : (a ++ b).getD (a.length + j) 0 = b.getD j 0 := by
 rw [List.getD_eq_getElem?_getD, List.getElem?_append_right (by omega), List.getD_eq_getElem?_getD]
 simp
theorem getD_left (a b : List UInt8) (j : Nat) (h : j < a.length) : (a ++ b).getD j 0 = a.getD j 0 := by
 rw [List.getD_eq_getElem?_getD, List.getElem?_append_left h, List.getD_eq_getElem?_getD]
theorem ofNat_toNat (v : Nat) (h : v < 256) : (UInt8.ofNat v).toNat = v := by
 simp [UInt8.toNat_ofNat']; omega
theorem readN_enc (c : UInt8) (hc : letter c) (x : Int) (hx : inK c x = true) (p r : List UInt8) : readN c (p ++ (encArg c x ++ r)) p.length = x := by
 have h0 : ∀ j, j < (encArg c x).length → (p ++ (encArg c x ++ r)).getD (p.length + j) 0 = (encArg c x).getD j 0 := fun j hj => by rw [getD_app, getD_left _ _ _ hj]
 have hl := encArg_len c x
 unfold inK at hx
 simp only [Bool.and_eq_true, decide_eq_true_eq] at hx
 unfold readN
 rcases hc with rfl | rfl | rfl
 ·rw [if_pos rfl]
  have := h0 0 (by rw [hl]; decide)
  rw [Nat.add_zero] at this
  rw [this]
  have hb : lowK 66 = 0 ∧ highK 66 = 255 := ⟨rfl, rfl⟩
  rw [hb.1, hb.2] at hx
  show ((UInt8.ofNat (x % 256).toNat).toNat : Int) = x
  rw [ofNat_toNat _ (by omega)]
  omega
 ·rw [if_neg (by decide)]
  have e0 := h0 0 (by rw [hl]; decide)
  have e1 := h0 1 (by rw [hl]; decide)
  rw [Nat.add_zero] at e0
  rw [e0, e1]
  have hb : lowK 87 = 0 ∧ highK 87 = 65535 := ⟨rfl, rfl⟩
  rw [hb.1, hb.2] at hx
  rw [hb.2]
  have f0 : ((encArg 87 x).getD 0 0).toNat = (x / 256 % 256).toNat := by show (UInt8.ofNat _).toNat = _; rw [ofNat_toNat _ (by omega)]
  have f1 : ((encArg 87 x).getD 1 0).toNat = (x % 256).toNat := by show (UInt8.ofNat _).toNat = _; rw [ofNat_toNat _ (by omega)]
  rw [f0, f1]
  split <;> omega
 ·rw [if_neg (by decide)]
  have e0 := h0 0 (by rw [hl]; decide)
  have e1 := h0 1 (by rw [hl]; decide)
  rw [Nat.add_zero] at e0
  rw [e0, e1]
  have hb : lowK 74 = -32768 ∧ highK 74 = 32767 := ⟨rfl, rfl⟩
  rw [hb.1, hb.2] at hx
  rw [hb.2]
  have f0 : ((encArg 74 x).getD 0 0).toNat = (x / 256 % 256).toNat := by show (UInt8.ofNat _).toNat = _; rw [ofNat_toNat _ (by omega)]
  have f1 : ((encArg 74 x).getD 1 0).toNat = (x % 256).toNat := by show (UInt8.ofNat _).toNat = _; rw [ofNat_toNat _ (by omega)]
  rw [f0, f1]
  split <;> omega
theorem read1_enc (c : UInt8) (hc : letter c) (x : Int) (hx : inK c x = true) (p r : List UInt8) (rows : Nat) (args : List Int) :
 read1 c (p ++ (encArg c x ++ r)) ⟨rows, p.length, false, args⟩ = ⟨rows, p.length + (encArg c x).length, false, args ++ [x]⟩ := by
 unfold read1 failsB
 rw [if_neg (by simp [encArg_len])]
 simp only
 rw [readN_enc c hc x hx p r, encArg_len]
theorem readRows_enc (v : Nat) (hv : v < 256) (p r : List UInt8) (rows : Nat) (args : List Int) :
 readRows (p ++ ([UInt8.ofNat v] ++ r)) ⟨rows, p.length, false, args⟩ = ⟨v, p.length + 1, false, args⟩ := by
 unfold readRows failsB
 rw [if_neg (by simp [sizeN])]
 have := getD_app p ([UInt8.ofNat v] ++ r) 0
 rw [Nat.add_zero] at this
 simp only
 rw [this]
 show RSt.mk (UInt8.ofNat v).toNat _ _ _ = _
 rw [ofNat_toNat v hv]
theorem st_enc (n : Nat) (args : List Int) (hR : rowsOk n args.length = true) (hok : okTo n args args.length = true) (hr : rowsOf n args.length < 256) (pre rest : List UInt8) : ∀ k, k ≤ args.length →
 stAt n (pre ++ (encTo n args args.length ++ rest)) (pre.length + 1) k = ⟨if k = 0 then 0 else rowsOf n args.length, pre.length + (encTo n args k).length, false, args.take k⟩
 | 0, _ => by simp [stAt, encTo]
 | k + 1, hk => by
   have ih := st_enc n args hR hok hr pre rest k (by omega)
   show stepSt n _ k _ = _
   rw [ih]
   have hlen := letters_length n args.length hR
   have hkl : k < (wholeL n (if k = 0 then 0 else rowsOf n args.length)).length := by
    rw [whole_length]
    unfold lettersOf at hlen
    rw [whole_length] at hlen
    split
    ·rename_i h0
     subst h0
     by_cases h60 : n = 60
     ·subst h60; rw [form60]; simp
     ·unfold rowsOf at hlen; rw [if_neg h60] at hlen; omega
    ·omega
   have hkind := kind_whole n _ k hkl
   have hlet := kind_letters n args.length k hR (by omega)
   have hin : inK (kindL n k) (args.getD k 0) = true := by
    have := okTo_mono n args (j := k + 1) (by omega) hok
    rw [okTo_succ, hlet] at this
    simp only [Bool.and_eq_true] at this
    exact this.2
   obtain ⟨t, ht⟩ := encTo_tail n args (k + 1) (args.length - (k + 1))
   rw [show k + 1 + (args.length - (k + 1)) = args.length by omega] at ht
   have htake : args.take k ++ [args.getD k 0] = args.take (k + 1) := by
    rw [List.take_succ_eq_append_getElem (by omega), List.getD_eq_getElem?_getD, List.getElem?_eq_getElem (by omega)]; rfl
   unfold stepSt
   by_cases hc : n = 60 ∧ k = 0
   ·rw [if_pos hc]
    have he := encTo_case n args k hc
    rw [hlet] at he
    rw [hkind, ht, he]
    have e1 : pre ++ (encTo n args k ++ encArg (kindL n k) (args.getD k 0) ++ [UInt8.ofNat (rowsOf n args.length)] ++ t ++ rest) = (pre ++ encTo n args k) ++ (encArg (kindL n k) (args.getD k 0) ++ ([UInt8.ofNat (rowsOf n args.length)] ++ (t ++ rest))) := by simp [List.append_assoc]
    have e2 : pre.length + (encTo n args k).length = (pre ++ encTo n args k).length := by simp
    rw [e1, e2, read1_enc _ (kind_letter n k) _ hin]
    have e3 : (pre ++ encTo n args k) ++ (encArg (kindL n k) (args.getD k 0) ++ ([UInt8.ofNat (rowsOf n args.length)] ++ (t ++ rest))) = (pre ++ encTo n args k ++ encArg (kindL n k) (args.getD k 0)) ++ ([UInt8.ofNat (rowsOf n args.length)] ++ (t ++ rest)) := by simp [List.append_assoc]
    have e4 : (pre ++ encTo n args k).length + (encArg (kindL n k) (args.getD k 0)).length = (pre ++ encTo n args k ++ encArg (kindL n k) (args.getD k 0)).length := by simp [Nat.add_assoc]
    rw [e3, e4, readRows_enc _ hr, htake]
    simp
    omega
   ·rw [if_neg hc]
    have he := encTo_step n args k hc
    rw [hlet] at he
    rw [hkind, ht, he]
    have e1 : pre ++ (encTo n args k ++ encArg (kindL n k) (args.getD k 0) ++ t ++ rest) = (pre ++ encTo n args k) ++ (encArg (kindL n k) (args.getD k 0) ++ (t ++ rest)) := by simp [List.append_assoc]
    have e2 : pre.length + (encTo n args k).length = (pre ++ encTo n args k).length := by simp
    rw [e1, e2, read1_enc _ (kind_letter n k) _ hin, htake]
    have hrows : (if k = 0 then 0 else rowsOf n args.length) = rowsOf n args.length := by
     split
     ·rename_i h0; unfold rowsOf; rw [if_neg (fun h => hc ⟨h, h0⟩)]
     ·rfl
    rw [hrows]
    simp
    omega
theorem encTo_pos (n : Nat) (args : List Int) (k : Nat) : 0 < (encTo n args k).length := by
 obtain ⟨t, ht⟩ := encTo_tail n args 0 k
 rw [Nat.zero_add] at ht
 rw [ht]
 simp [encTo]
theorem decode_enc (n : Nat) (hn : n < 256) (args : List Int) (h : (oneL n args).2 = 0) (pre rest : List UInt8) :
 decodeL (pre ++ ((oneL n args).1 ++ rest)) pre.length = ((n, args), ((pre.length + (oneL n args).1.length : Nat) : Int), 0) := by
 obtain ⟨hT, hR, hok, hr, he⟩ := oneL_ok n args h
 rw [he]
 have hp := encTo_pos n args args.length
 have hop : (pre ++ (encTo n args args.length ++ rest)).getD pre.length 0 = UInt8.ofNat n := by
  have h1 := getD_app pre (encTo n args args.length ++ rest) 0
  rw [Nat.add_zero] at h1
  rw [h1, getD_left _ _ _ hp]
  obtain ⟨t, ht⟩ := encTo_tail n args 0 args.length
  rw [Nat.zero_add] at ht
  rw [ht]
  rfl
 have hst := st_enc n args hR hok hr pre rest
 have hend : endAt n (pre ++ (encTo n args args.length ++ rest)) (pre.length + 1) = args.length := by
  have hrows : endRows n (pre ++ (encTo n args args.length ++ rest)) (pre.length + 1) = rowsOf n args.length := by
   unfold endRows
   by_cases h60 : n = 60
   ·rw [if_pos h60]
    have h2 : 2 ≤ args.length := by
     unfold rowsOk at hR
     rw [if_pos h60] at hR
     simp only [decide_eq_true_eq] at hR
     exact hR.1
    rw [hst 1 (by omega)]
    simp
   ·rw [if_neg h60]; unfold rowsOf; rw [if_neg h60]
  unfold endAt
  rw [hrows]
  exact letters_length n args.length hR
 unfold decodeL
 rw [if_neg (by simp; omega), Int.toNat_natCast, hop, ofNat_toNat n hn, if_neg (by simp [hT]), hend, hst args.length (Nat.le_refl _)]
 simp
end Go.Proofs.YtabenhpjgjjgnaaGreatDoor.K16
end
