/- Plain: a module's and an image's bytes; what is read of bytes. No program in sight, no condition. -/
import Derived.Test.YtckbfocbainlpaaOp
namespace Go.Proofs.Ytckbfocbainlpaa

def procN (p : ProcL) : List UInt8 := beN p.at_.toNat 2 ++ (beN p.params.toNat 2 ++ (beN p.locals.toNat 2 ++ (beN p.depth.toNat 2 ++ (beN p.level.toNat 1 ++ truthL p.fn))))
def impN (i : Int) : List UInt8 := beN i.toNat 1
def wordN (n : Nat) : List UInt8 := beN n 2
def packL (m : ModL) : List UInt8 := beN m.code.length 2 ++ m.code ++ beN m.procs.length 2 ++ m.procs.flatMap procN ++ beN m.imports.length 1 ++ m.imports.flatMap impN ++ (beN m.data.toNat 2 ++ beN m.init.length 2) ++ m.init.flatMap wordN
/-- One module of an image: its name's length, its name, its bytes. -/
def partN (s : List UInt8) (m : ModL) : List UInt8 := [UInt8.ofNat s.length] ++ (s ++ packL m)
def bodyTo (i : ImgL) (k : Nat) : List UInt8 := [UInt8.ofNat i.names.length] ++ (List.range k).flatMap fun j => partN (i.names.getD j []) (i.mods.getD j default)
def imgBody (i : ImgL) : List UInt8 := bodyTo i i.names.length
def kindL : List UInt8 := [83, 69, 80, 73]
def wrapL (s : List UInt8) : List UInt8 := kindL ++ (eightL (keyN s) ++ s)
def encodeL (i : ImgL) : List UInt8 := if imgB i then wrapL (imgBody i) else []

/-- What is left of bytes, and whether they were too few. -/
structure Rs where
  s : List UInt8
  bad : Bool
def overB (r : Rs) (n : Nat) : Bool := r.bad || decide (r.s.length < n)
def rawS (r : Rs) (n : Nat) : Rs := if overB r n then ⟨r.s, true⟩ else ⟨r.s.drop n, false⟩
def rawV (r : Rs) (n : Nat) : List UInt8 := if overB r n then [] else r.s.take n
def numV (r : Rs) (n : Nat) : Nat := toN (rawV r n)
def truthV (r : Rs) : Bool := numV r 1 == 1
def truthS (r : Rs) : Rs := ⟨(rawS r 1).s, (rawS r 1).bad || decide (1 < numV r 1)⟩
def procR (r : Rs) : ProcL × Rs :=
  (⟨numV r 2, numV (rawS r 2) 2, numV (rawS (rawS r 2) 2) 2, numV (rawS (rawS (rawS r 2) 2) 2) 2, numV (rawS (rawS (rawS (rawS r 2) 2) 2) 2) 1, truthV (rawS (rawS (rawS (rawS (rawS r 2) 2) 2) 2) 1)⟩, truthS (rawS (rawS (rawS (rawS (rawS r 2) 2) 2) 2) 1))
def impR (r : Rs) : Int × Rs := (numV r 1, rawS r 1)
def wordR (r : Rs) : Nat × Rs := (numV r 2, rawS r 2)
def listTo {α : Type} (one : Rs → α × Rs) : Nat → Rs → List α × Rs
  | 0, r => ([], r)
  | k + 1, r => if (listTo one k r).2.bad then listTo one k r else ((listTo one k r).1 ++ [(one (listTo one k r).2).1], (one (listTo one k r).2).2)
/-- The places of a module's parts. -/
def r2 (r : Rs) : Rs := rawS (rawS r 2) (numV r 2)
def ps (r : Rs) : List ProcL × Rs := listTo procR (numV (r2 r) 2) (rawS (r2 r) 2)
def is (r : Rs) : List Int × Rs := listTo impR (numV (ps r).2 1) (rawS (ps r).2 1)
def r7 (r : Rs) : Rs := rawS (is r).2 2
def ts (r : Rs) : List Nat × Rs := listTo wordR (numV (r7 r) 2) (rawS (r7 r) 2)
def modM (r : Rs) : ModL := ⟨rawV (rawS r 2) (numV r 2), (ps r).1, (is r).1, numV (is r).2 2, (ts r).1⟩
def modS (r : Rs) : Rs := ⟨(ts r).2.s, (ts r).2.bad || !modOkB (modM r)⟩
def unpackL (s : List UInt8) : Option (ModL × List UInt8) := if (modS ⟨s, false⟩).bad then none else some (modM ⟨s, false⟩, (modS ⟨s, false⟩).s)
structure Half where
  names : List (List UInt8)
  mods : List ModL
  rest : List UInt8
def stepI (h : Half) : Option Half :=
  match h.rest with
  | [] => none
  | c :: t => if t.length < c.toNat then none else
    match unpackL (t.drop c.toNat) with
    | none => none
    | some (m, q) => some ⟨h.names ++ [t.take c.toNat], h.mods ++ [m], q⟩
def imgTo : Nat → List UInt8 → Option Half
  | 0, s => some ⟨[], [], s⟩
  | k + 1, s => (imgTo k s).bind stepI
def ordL (n : Nat) : List Int := (List.range n).map fun (k : Nat) => (k : Int)
def halfI (h : Half) : ImgL := ⟨h.names, h.mods, ordL h.names.length⟩
def nullI : ImgL := ⟨[], [], []⟩
def readL (s : List UInt8) : Option ImgL :=
  match s with
  | [] => none
  | c :: t => match imgTo c.toNat t with
    | none => none
    | some h => if h.rest = [] ∧ imgB (halfI h) = true then some (halfI h) else none
def decodeE (s : List UInt8) : Int :=
  if s.length < 12 ∨ s.take 4 ≠ kindL then 7
  else if (s.drop 4).take 8 ≠ eightL (keyN (s.drop 12)) then 210
  else if (readL (s.drop 12)).isSome then 0 else 7
def decodeI (s : List UInt8) : ImgL := if decodeE s = 0 then (readL (s.drop 12)).getD nullI else nullI

theorem listTo_succ_bad {α : Type} (one : Rs → α × Rs) (k : Nat) (r : Rs) (h : (listTo one k r).2.bad = true) : listTo one (k + 1) r = listTo one k r := by
  show (if (listTo one k r).2.bad then _ else _) = _
  rw [if_pos h]
theorem listTo_succ_ok {α : Type} (one : Rs → α × Rs) (k : Nat) (r : Rs) (h : (listTo one k r).2.bad = false) : listTo one (k + 1) r = ((listTo one k r).1 ++ [(one (listTo one k r).2).1], (one (listTo one k r).2).2) := by
  show (if (listTo one k r).2.bad then _ else _) = _
  rw [h]; rfl
theorem listTo_bad {α : Type} (one : Rs → α × Rs) (k n : Nat) (hk : k ≤ n) (r : Rs) (h : (listTo one k r).2.bad = true) : listTo one n r = listTo one k r := by
  induction n with
  | zero => obtain rfl : k = 0 := by omega
            rfl
  | succ n ih =>
    by_cases e : k = n + 1
    · rw [e]
    · have := ih (by omega)
      rw [listTo_succ_bad _ _ _ (by rw [this]; exact h), this]
theorem rawV_len (r : Rs) (n : Nat) : (rawV r n).length ≤ n := by unfold rawV; split <;> simp; omega
theorem toN_lt (l : List UInt8) : toN l < 256 ^ l.length := by
  suffices h : ∀ m : List UInt8, toN m.reverse < 256 ^ m.length by simpa using h l.reverse
  intro m
  induction m with
  | nil => simp [toN]
  | cons b m ih =>
    rw [List.reverse_cons, toN_snoc, List.length_cons, Nat.pow_succ]
    have := b.toNat_lt
    omega
theorem numV_lt (r : Rs) (n : Nat) : numV r n < 256 ^ n := Nat.lt_of_lt_of_le (toN_lt _) (Nat.pow_le_pow_right (by omega) (rawV_len r n))
theorem numV1_lt (r : Rs) : numV r 1 < 256 := numV_lt r 1
theorem numV2_lt (r : Rs) : numV r 2 < 65536 := numV_lt r 2
theorem listTo_len {α : Type} (one : Rs → α × Rs) (k : Nat) (r : Rs) : (listTo one k r).1.length ≤ k := by
  induction k with
  | zero => simp [listTo]
  | succ k ih =>
    cases h : (listTo one k r).2.bad
    · rw [listTo_succ_ok _ _ _ h]; simp; omega
    · rw [listTo_succ_bad _ _ _ h]; omega
theorem rawS_len (r : Rs) (n : Nat) : (rawS r n).s.length ≤ r.s.length := by unfold rawS; split <;> simp
theorem bodyTo_succ (i : ImgL) (k : Nat) : bodyTo i (k + 1) = bodyTo i k ++ ([UInt8.ofNat (i.names.getD k []).length] ++ (i.names.getD k [] ++ packL (i.mods.getD k default))) := by
  unfold bodyTo; rw [List.range_succ, List.flatMap_append]; simp [partN]
theorem modOk_of_check {ms : List ModL} {o : List Int} (h : checkB ms o = true) (m : ModL) (hm : m ∈ ms) : modOkB m = true := by
  unfold checkB at h
  simp only [Bool.and_eq_true] at h
  obtain ⟨⟨⟨h1, h2⟩, _⟩, _⟩ := h
  have h2 := List.all_eq_true.1 h2 m hm
  have h1' : ms.length ≤ 64 := by simp [withinB] at h1; omega
  unfold modB at h2
  simp only [Bool.and_eq_true] at h2
  obtain ⟨⟨⟨h3, h4⟩, h5⟩, h6⟩ := h2
  have h7 : decide (255 < m.imports.length) = false := by
    unfold headB at h3
    simp only [Bool.and_eq_true, Bool.not_eq_true'] at h3
    exact h3.1.2
  have h8 : m.imports.all (withinB · 0 63) = true := by
    rw [List.all_eq_true] at h5 ⊢
    intro x hx
    have := h5 x hx
    simp [withinB] at this ⊢
    omega
  have h9 : headB (noImp m) = true := by
    unfold headB noImp at *
    simp only [Bool.and_eq_true] at h3 ⊢
    exact ⟨⟨⟨h3.1.1.1, h3.1.1.2⟩, by simp⟩, h3.2⟩
  unfold modOkB
  rw [h7, h8]
  unfold checkB modB
  rw [List.all_cons, h9]
  simp only [noImp, List.all_nil]
  rw [h4, h6]
  rfl
end Go.Proofs.Ytckbfocbainlpaa
