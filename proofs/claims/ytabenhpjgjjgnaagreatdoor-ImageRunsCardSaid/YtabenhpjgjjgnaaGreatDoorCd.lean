/- A run does not hang on where a machine lies. Plain. Plain. Plain. What an image's bytes give may run. key. image. strings. Condition: what lies in memory can lie there; what each theorem says. -/
import Derived.Test.YtabenhpjgjjgnaaGreatDoorCc
import Derived.Test.YtabenhpjgjjgnaaGreatDoorBa
import Derived.Test.YtabenhpjgjjgnaaGreatDoorBq
import Derived.Test.YtabenhpjgjjgnaaGreatDoorBh
import Derived.Lib.Hide
import Derived.Laws.Bits64
import Derived.Laws.MakeOwn
import Derived.Shelf.Strings.BuilderK
/- A run does not hang on where a machine lies. -/
namespace Go.Proofs.YtabenhpjgjjgnaaGreatDoor
open Go.RowKit
structure Alike (A B : MK) : Prop where
 n : A.n = B.n
 mods : A.mods = B.mods
 order : A.order = B.order
 data : A.data = B.data
 first : A.first = B.first
 low : A.low = B.low
 high : A.high = B.high
 most : A.most = B.most
 hn : A.hn = B.hn
theorem push_alike {A B : MK} (h : Alike A B) : pushM A = pushM B := by
 funext x S; unfold pushM topN hereP modOf; rw [h.mods, h.n]
theorem pops_alike {A B : MK} (h : Alike A B) : popsM A = popsM B := by
 funext x S; unfold popsM floorN hereP modOf; rw [h.mods]
theorem goes_alike {A B : MK} (h : Alike A B) : goesM A = goesM B := by
 funext x S; unfold goesM codeLen modOf; rw [h.mods]
theorem address_alike {A B : MK} (h : Alike A B) : addressM A = addressM B := by
 funext x S; unfold addressM; rw [push_alike h]
theorem loads_alike {A B : MK} (h : Alike A B) : loadsM A = loadsM B := by
 funext x S; unfold loadsM; rw [push_alike h, h.n]
theorem stores_alike {A B : MK} (h : Alike A B) : storesM A = storesM B := by
 funext x S; unfold storesM storesR putM; rw [pops_alike h, h.n]
theorem out_alike {A B : MK} (h : Alike A B) : outM A = outM B := by
 have e : outL A = outL B := by
  funext ws l
  induction l with
  | zero => rfl
  | succ l ih => funext fp; unfold outL; rw [h.n, h.low, ih]
 funext l S; unfold outM hereP modOf; rw [e, h.mods]
theorem module_alike {A B : MK} (h : Alike A B) : moduleM A = moduleM B := by
 funext S; unfold moduleM modOf; rw [h.mods]
theorem writes_alike {A B : MK} (h : Alike A B) : writesM A = writesM B := by
 funext s S; unfold writesM writeM; rw [h.most]
theorem all_alike {A B : MK} (h : Alike A B) : pushAll A = pushAll B := by
 funext l
 induction l with
 | nil => rfl
 | cons x l ih => funext S; unfold pushAll; rw [push_alike h, ih]
theorem proc_alike {A B : MK} (h : Alike A B) : procOf A = procOf B := by
 funext m p; unfold procOf; rw [h.mods]
theorem here_alike {A B : MK} (h : Alike A B) : hereP A = hereP B := by
 funext S; unfold hereP modOf; rw [h.mods]
theorem frame_alike {A B : MK} (h : Alike A B) : frameM A = frameM B := by
 funext a b c d e f g S; unfold frameM markM; rw [h.n, here_alike h]
theorem enter_alike {A B : MK} (h : Alike A B) : enterM A = enterM B := by
 funext m p x S; unfold enterM enterAt floorN; rw [proc_alike h, here_alike h, h.high, frame_alike h]
theorem begins_alike {A B : MK} (h : Alike A B) : beginsM A = beginsM B := by
 funext S; unfold beginsM nextP nextMod; rw [h.order, h.mods, h.high, h.low, frame_alike h]
theorem leave_alike {A B : MK} (h : Alike A B) : leaveM A = leaveM B := by
 funext is S; unfold leaveM leaveL; rw [here_alike h, begins_alike h, proc_alike h, h.mods, h.high, h.low]
theorem callf_alike {A B : MK} (h : Alike A B) : callfL A = callfL B := by
 funext x S n
 induction n with
 | zero => rfl
 | succ n ih => funext j; unfold callfL; rw [ih, proc_alike h, h.first, h.mods, enter_alike h]
theorem do_alike {A B : MK} (h : Alike A B) : doA A = doA B := by
 funext op S
 have h1 := push_alike h
 have h2 := pops_alike h
 have h3 := goes_alike h
 have h4 := address_alike h
 have h5 := loads_alike h
 have h6 := stores_alike h
 have h7 := out_alike h
 have h8 := module_alike h
 have h9 := writes_alike h
 have ha := all_alike h
 have hb := proc_alike h
 have hc := here_alike h
 have hd := enter_alike h
 have he := leave_alike h
 have hf := callf_alike h
 have hg : modOf A = modOf B := by funext S; unfold modOf; rw [h.mods]
 unfold doA opM opR litM globalM globalR localM liM liR siM siR siPut addM addR ptrM ptrR ptrP ixM ixR ixL ixopM ixopR ixopL rangesM rangesR convM convR jmpM jumpsM jumpsR keepsM keepsR casesM casesR marksM callM callxM callxR callfM callfR retfM retfR retfL numberM numberR turnsM turnsR movesM movesR makeM makeR makeL freeM freeR freeL readM putcM putcR wrsM wrsR wrsE textsM textsR
 simp only [h1, h2, h3, h4, h5, h6, h7, h8, h9, ha, hb, hc, hd, he, hf, hg, h.n, h.mods, h.data, h.first, h.high, h.hn]
theorem step_alike {A B : MK} (h : Alike A B) : stepM A = stepM B := by
 funext S; unfold stepM stepR modOf; rw [do_alike h, h.mods]
theorem run_alike {A B : MK} (h : Alike A B) : runM A = runM B := by
 funext n
 induction n with
 | zero => rfl
 | succ n ih => funext S; unfold runM; rw [step_alike h, ih]
end Go.Proofs.YtabenhpjgjjgnaaGreatDoor
/- Plain. -/
namespace Go.Proofs.YtabenhpjgjjgnaaGreatDoor
def two64 : Nat := 18446744073709551616
def stepN (h : Nat) (b : UInt8) : Nat := ((h ^^^ b.toNat) * 1099511628211) % two64
def moreN (h : Nat) (s : List UInt8) : Nat := s.foldl stepN h
def firstN : Nat := 14695981039346656037
def mixN (h : Nat) : Nat := h ^^^ (h / 4294967296)
def keyN (s : List UInt8) : Nat := mixN (moreN firstN s)
theorem stepN_lt (h : Nat) (b : UInt8) : stepN h b < two64 := Nat.mod_lt _ (by decide)
theorem moreN_lt (h : Nat) (hh : h < two64) (s : List UInt8) : moreN h s < two64 := by
 unfold moreN
 induction s generalizing h with
 | nil => exact hh
 | cons b s ih => exact ih _ (stepN_lt h b)
theorem firstN_lt : firstN < two64 := by decide
theorem mixN_lt (h : Nat) (hh : h < two64) : mixN h < two64 := by
 unfold mixN
 have e : two64 = 2 ^ 64 := by decide
 have h2 : h / 4294967296 < two64 := Nat.lt_of_le_of_lt (Nat.div_le_self _ _) hh
 generalize h / 4294967296 = y at *
 rw [e] at hh h2 ⊢
 exact Nat.xor_lt_two_pow hh h2
theorem keyN_lt (s : List UInt8) : keyN s < two64 := mixN_lt _ (moreN_lt _ firstN_lt _)
theorem moreN_snoc (h : Nat) (s : List UInt8) (k : Nat) (hk : k < s.length) : moreN h (s.take (k + 1)) = stepN (moreN h (s.take k)) (s.getD k 0) := by
 have e : s.getD k 0 = s[k] := by simp [List.getD_eq_getElem?_getD, hk]
 rw [List.take_succ_eq_append_getElem hk, e]
 unfold moreN
 rw [List.foldl_append, List.foldl_cons, List.foldl_nil]
def beN (k : Nat) : Nat → List UInt8
 | 0 => []
 | m + 1 => beN (k / 256) m ++ [UInt8.ofNat (k % 256)]
theorem beN_length (k m : Nat) : (beN k m).length = m := by
 induction m generalizing k with
 | zero => rfl
 | succ m ih => simp [beN, ih]
def eightL (k : Nat) : List UInt8 := beN k 8
theorem beN_get (k m j : Nat) (hj : j < m) : (beN k m).getD j 0 = UInt8.ofNat (k / 256 ^ (m - 1 - j) % 256) := by
 induction m generalizing k j with
 | zero => omega
 | succ m ih =>
   unfold beN
   rw [List.getD_eq_getElem?_getD, List.getElem?_append]
   by_cases h : j < m
   ·rw [if_pos (by rw [beN_length]; exact h), ← List.getD_eq_getElem?_getD, ih _ _ h, Nat.div_div_eq_div_mul]
    congr 2
    rw [← Nat.pow_succ', show (m - 1 - j).succ = m + 1 - 1 - j by omega]
   ·obtain rfl : j = m := by omega
    rw [if_neg (by rw [beN_length]; omega), beN_length]
    simp
def toN (l : List UInt8) : Nat := l.foldl (fun n b => n * 256 + b.toNat) 0
theorem toN_snoc (l : List UInt8) (b : UInt8) : toN (l ++ [b]) = toN l * 256 + b.toNat := by unfold toN; simp [List.foldl_append]
end Go.Proofs.YtabenhpjgjjgnaaGreatDoor
/- Plain. -/
namespace Go.Proofs.YtabenhpjgjjgnaaGreatDoor
def noImp (m : ModL) : ModL := { m with imports := [] }
def modOkB (m : ModL) : Bool := !decide (255 < m.imports.length) && m.imports.all (withinB · 0 63) && checkB [noImp m] []
theorem modOkB_long {m : ModL} (h : 255 < m.imports.length) : modOkB m = false := by unfold modOkB; rw [decide_eq_true h]; rfl
theorem modOkB_imp {m : ModL} (h : m.imports.all (withinB · 0 63) = false) : modOkB m = false := by unfold modOkB; rw [h]; simp
theorem modOkB_rest {m : ModL} (h1 : ¬ 255 < m.imports.length) (h2 : m.imports.all (withinB · 0 63) = true) : modOkB m = checkB [noImp m] [] := by unfold modOkB; rw [decide_eq_false h1, h2]; rfl
def truthL (b : Bool) : List UInt8 := if b then [1] else [0]
end Go.Proofs.YtabenhpjgjjgnaaGreatDoor
/- Plain. -/
namespace Go.Proofs.YtabenhpjgjjgnaaGreatDoor
def procN (p : ProcL) : List UInt8 := beN p.at_.toNat 2 ++ (beN p.params.toNat 2 ++ (beN p.locals.toNat 2 ++ (beN p.depth.toNat 2 ++ (beN p.level.toNat 1 ++ truthL p.fn))))
def impN (i : Int) : List UInt8 := beN i.toNat 1
def wordN (n : Nat) : List UInt8 := beN n 2
def packL (m : ModL) : List UInt8 := beN m.code.length 2 ++ m.code ++ beN m.procs.length 2 ++ m.procs.flatMap procN ++ beN m.imports.length 1 ++ m.imports.flatMap impN ++ (beN m.data.toNat 2 ++ beN m.init.length 2) ++ m.init.flatMap wordN
def partN (s : List UInt8) (m : ModL) : List UInt8 := [UInt8.ofNat s.length] ++ (s ++ packL m)
def bodyTo (i : ImgL) (k : Nat) : List UInt8 := [UInt8.ofNat i.names.length] ++ (List.range k).flatMap fun j => partN (i.names.getD j []) (i.mods.getD j default)
def imgBody (i : ImgL) : List UInt8 := bodyTo i i.names.length
def kindL : List UInt8 := [83, 69, 80, 73]
def wrapL (s : List UInt8) : List UInt8 := kindL ++ (eightL (keyN s) ++ s)
def encodeL (i : ImgL) : List UInt8 := if imgB i then wrapL (imgBody i) else []
structure Rs where
 s : List UInt8
 bad : Bool
def overB (r : Rs) (n : Nat) : Bool := r.bad || decide (r.s.length < n)
def rawS (r : Rs) (n : Nat) : Rs := if overB r n then ⟨r.s, true⟩ else ⟨r.s.drop n, false⟩
def rawV (r : Rs) (n : Nat) : List UInt8 := if overB r n then [] else r.s.take n
def numV (r : Rs) (n : Nat) : Nat := toN (rawV r n)
def truthV (r : Rs) : Bool := numV r 1 == 1
def truthS (r : Rs) : Rs := ⟨(rawS r 1).s, (rawS r 1).bad || decide (1 < numV r 1)⟩
def procR (r : Rs) : ProcL × Rs :=
 (⟨numV r 2, numV (rawS r 2) 2, numV (rawS (rawS r 2) 2) 2, numV (rawS (rawS (rawS r 2) 2) 2) 2, numV (rawS (rawS (rawS (rawS r 2) 2) 2) 2) 1, truthV (rawS (rawS (rawS (rawS (rawS r 2) 2) 2) 2) 1)⟩, truthS (rawS (rawS (rawS (rawS (rawS r 2) 2) 2) 2) 1))
def impR (r : Rs) : Int × Rs := (numV r 1, rawS r 1)
def wordR (r : Rs) : Nat × Rs := (numV r 2, rawS r 2)
def listTo {α : Type} (one : Rs → α × Rs) : Nat → Rs → List α × Rs
 | 0, r => ([], r)
 | k + 1, r => if (listTo one k r).2.bad then listTo one k r else ((listTo one k r).1 ++ [(one (listTo one k r).2).1], (one (listTo one k r).2).2)
def r2 (r : Rs) : Rs := rawS (rawS r 2) (numV r 2)
def ps (r : Rs) : List ProcL × Rs := listTo procR (numV (r2 r) 2) (rawS (r2 r) 2)
def is (r : Rs) : List Int × Rs := listTo impR (numV (ps r).2 1) (rawS (ps r).2 1)
def r7 (r : Rs) : Rs := rawS (is r).2 2
def ts (r : Rs) : List Nat × Rs := listTo wordR (numV (r7 r) 2) (rawS (r7 r) 2)
def modM (r : Rs) : ModL := ⟨rawV (rawS r 2) (numV r 2), (ps r).1, (is r).1, numV (is r).2 2, (ts r).1⟩
def modS (r : Rs) : Rs := ⟨(ts r).2.s, (ts r).2.bad || !modOkB (modM r)⟩
def unpackL (s : List UInt8) : Option (ModL × List UInt8) := if (modS ⟨s, false⟩).bad then none else some (modM ⟨s, false⟩, (modS ⟨s, false⟩).s)
structure Half where
 names : List (List UInt8)
 mods : List ModL
 rest : List UInt8
def stepI (h : Half) : Option Half :=
 match h.rest with
 | [] => none
 | c :: t => if t.length < c.toNat then none else
   match unpackL (t.drop c.toNat) with
   | none => none
   | some (m, q) => some ⟨h.names ++ [t.take c.toNat], h.mods ++ [m], q⟩
def imgTo : Nat → List UInt8 → Option Half
 | 0, s => some ⟨[], [], s⟩
 | k + 1, s => (imgTo k s).bind stepI
def ordL (n : Nat) : List Int := (List.range n).map fun (k : Nat) => (k : Int)
def halfI (h : Half) : ImgL := ⟨h.names, h.mods, ordL h.names.length⟩
def nullI : ImgL := ⟨[], [], []⟩
def readL (s : List UInt8) : Option ImgL :=
 match s with
 | [] => none
 | c :: t => match imgTo c.toNat t with
   | none => none
   | some h => if h.rest = [] ∧ imgB (halfI h) = true then some (halfI h) else none
def decodeE (s : List UInt8) : Int :=
 if s.length < 12 ∨ s.take 4 ≠ kindL then 7
 else if (s.drop 4).take 8 ≠ eightL (keyN (s.drop 12)) then 210
 else if (readL (s.drop 12)).isSome then 0 else 7
def decodeI (s : List UInt8) : ImgL := if decodeE s = 0 then (readL (s.drop 12)).getD nullI else nullI
theorem listTo_succ_bad {α : Type} (one : Rs → α × Rs) (k : Nat) (r : Rs) (h : (listTo one k r).2.bad = true) : listTo one (k + 1) r = listTo one k r := by
 show (if (listTo one k r).2.bad then _ else _) = _
 rw [if_pos h]
theorem listTo_succ_ok {α : Type} (one : Rs → α × Rs) (k : Nat) (r : Rs) (h : (listTo one k r).2.bad = false) : listTo one (k + 1) r = ((listTo one k r).1 ++ [(one (listTo one k r).2).1], (one (listTo one k r).2).2) := by
 show (if (listTo one k r).2.bad then _ else _) = _
 rw [h]; rfl
theorem listTo_bad {α : Type} (one : Rs → α × Rs) (k n : Nat) (hk : k ≤ n) (r : Rs) (h : (listTo one k r).2.bad = true) : listTo one n r = listTo one k r := by
 induction n with
 | zero => obtain rfl : k = 0 := by omega
           rfl
 | succ n ih =>
   by_cases e : k = n + 1
   ·rw [e]
   ·have := ih (by omega)
    rw [listTo_succ_bad _ _ _ (by rw [this]; exact h), this]
theorem rawV_len (r : Rs) (n : Nat) : (rawV r n).length ≤ n := by unfold rawV; split <;> simp; omega
theorem toN_lt (l : List UInt8) : toN l < 256 ^ l.length := by
 suffices h : ∀ m : List UInt8, toN m.reverse < 256 ^ m.length by simpa using h l.reverse
 intro m
 induction m with
 | nil => simp [toN]
 | cons b m ih =>
   rw [List.reverse_cons, toN_snoc, List.length_cons, Nat.pow_succ]
   have := b.toNat_lt
   omega
theorem numV_lt (r : Rs) (n : Nat) : numV r n < 256 ^ n := Nat.lt_of_lt_of_le (toN_lt _) (Nat.pow_le_pow_right (by omega) (rawV_len r n))
theorem numV1_lt (r : Rs) : numV r 1 < 256 := numV_lt r 1
theorem numV2_lt (r : Rs) : numV r 2 < 65536 := numV_lt r 2
theorem listTo_len {α : Type} (one : Rs → α × Rs) (k : Nat) (r : Rs) : (listTo one k r).1.length ≤ k := by
 induction k with
 | zero => simp [listTo]
 | succ k ih =>
   cases h : (listTo one k r).2.bad
   ·rw [listTo_succ_ok _ _ _ h]; simp; omega
   ·rw [listTo_succ_bad _ _ _ h]; omega
theorem rawS_len (r : Rs) (n : Nat) : (rawS r n).s.length ≤ r.s.length := by unfold rawS; split <;> simp
theorem bodyTo_succ (i : ImgL) (k : Nat) : bodyTo i (k + 1) = bodyTo i k ++ ([UInt8.ofNat (i.names.getD k []).length] ++ (i.names.getD k [] ++ packL (i.mods.getD k default))) := by
 unfold bodyTo; rw [List.range_succ, List.flatMap_append]; simp [partN]
theorem modOk_of_check {ms : List ModL} {o : List Int} (h : checkB ms o = true) (m : ModL) (hm : m ∈ ms) : modOkB m = true := by
 unfold checkB at h
 simp only [Bool.and_eq_true] at h
 obtain ⟨⟨⟨h1, h2⟩, _⟩, _⟩ := h
 have h2 := List.all_eq_true.1 h2 m hm
 have h1' : ms.length ≤ 64 := by simp [withinB] at h1; omega
 unfold modB at h2
 simp only [Bool.and_eq_true] at h2
 obtain ⟨⟨⟨h3, h4⟩, h5⟩, h6⟩ := h2
 have h7 : decide (255 < m.imports.length) = false := by
  unfold headB at h3
  simp only [Bool.and_eq_true, Bool.not_eq_true'] at h3
  exact h3.1.2
 have h8 : m.imports.all (withinB · 0 63) = true := by
  rw [List.all_eq_true] at h5 ⊢
  intro x hx
  have := h5 x hx
  simp [withinB] at this ⊢
  omega
 have h9 : headB (noImp m) = true := by
  unfold headB noImp at *
  simp only [Bool.and_eq_true] at h3 ⊢
  exact ⟨⟨⟨h3.1.1.1, h3.1.1.2⟩, by simp⟩, h3.2⟩
 unfold modOkB
 rw [h7, h8]
 unfold checkB modB
 rw [List.all_cons, h9]
 simp only [noImp, List.all_nil]
 rw [h4, h6]
 rfl
end Go.Proofs.YtabenhpjgjjgnaaGreatDoor
/- What an image's bytes give may run. -/
namespace Go.Proofs.YtabenhpjgjjgnaaGreatDoor
open Go.RowKit
set_option maxRecDepth 100000
theorem stepI_len {h h2 : Half} (e : stepI h = some h2) : h2.names.length = h.names.length + 1 := by
 unfold stepI at e
 split at e
 ·cases e
 ·split at e
  ·cases e
  ·split at e
   ·cases e
   ·cases e; simp
theorem imgTo_lenF : ∀ (n : Nat) (s : List UInt8) (h : Half), imgTo n s = some h → h.names.length = n
 | 0, s, h, e => by cases e; rfl
 | n + 1, s, h, e => by
   unfold imgTo at e
   cases h1 : imgTo n s with
   | none => rw [h1] at e; cases e
   | some h2 =>
     rw [h1] at e
     have := imgTo_lenF n s h2 h1
     rw [stepI_len (h := h2) e, this]
theorem decodeI_ok {s : List UInt8} (h : decodeE s = 0) : checkB (decodeI s).mods (decodeI s).order = true ∧ (decodeI s).order.length ≤ 255 := by
 have hs : (readL (s.drop 12)).isSome = true := by
  cases hb : (readL (s.drop 12)).isSome with
  | true => rfl
  | false =>
    unfold decodeE at h
    split at h
    ·cases h
    ·split at h
     ·cases h
     ·rw [hb] at h; simp at h
 have e : decodeI s = (readL (s.drop 12)).getD nullI := by unfold decodeI; rw [if_pos h]
 rw [e]
 clear e h
 obtain ⟨i, hi⟩ := Option.isSome_iff_exists.1 hs
 rw [hi]
 clear hs
 generalize s.drop 12 = t at *
 unfold readL at hi
 split at hi
 ·cases hi
 ·rename_i c t
  split at hi
  ·cases hi
  ·rename_i hh hj
   split at hi
   ·rename_i hok
    cases hi
    have hn := imgTo_lenF _ _ _ hj
    refine ⟨?_, ?_⟩
    ·have := hok.2
     unfold imgB at this
     simp only [Bool.and_eq_true] at this
     exact this.1.1.1.1.1
    ·show (ordL hh.names.length).length ≤ 255
     unfold ordL
     rw [List.length_map, List.length_range, hn]
     have := c.toNat_lt
     omega
   ·cases hi
theorem NewG.alike {A B : MK} {ms : List ModL} {o : List Int} {dl fl : List Int} {st hp out : Int} (a : NewG A ms o dl fl st hp out) (b : NewG B ms o dl fl st hp out) : Alike A B :=
 ⟨by have := a.n; have := b.n; omega, a.mods.trans b.mods.symm, a.order.trans b.order.symm, a.data.trans b.data.symm, a.first.trans b.first.symm, a.low.trans b.low.symm, a.high.trans b.high.symm, a.most.trans b.most.symm, a.hn.trans b.hn.symm⟩
theorem start_alike {A B : MK} (h : Alike A B) (inp : List UInt8) : startG A inp = startG B inp := by
 unfold startG; rw [begins_alike h, h.n, h.mods]
theorem runF_alike {A B : MK} (h : Alike A B) (f : Int) (S : St) : runF A f S = runF B f S := by
 unfold runF; rw [run_alike h]
theorem At.apart {K : MK} {S : St} {W W' : World} {bs0 : List Nat} (h : At { K with bs := bs0 ++ K.bs } S W) (k : KOk K) (ho : Only bs0 W W') (hd : ∀ b ∈ K.bs, b ∉ bs0) : At { K with bs := bs0 ++ K.bs } S W' := by
 have hO : Only (bs0 ++ K.bs) W W' := by
  refine ⟨ho.os, ho.tape, ho.output, by rw [mask_size, mask_size]; exact ho.size, fun q hq => ?_⟩
  by_cases hm : q ∈ bs0 ++ K.bs
  ·rw [mask_in _ _ hm hq, mask_in _ _ hm (Nat.lt_of_lt_of_le hq ho.size)]
  ·rw [mask_at _ _ hm, mask_at _ _ hm]
   exact ho.block hq (fun e => hm (List.mem_append_left _ e))
 have hs : ∀ b ∈ K.bs, W'.heap[b]? = W.heap[b]? := fun b hb => ho.block (h.old b (List.mem_append_right _ hb)) (hd b hb)
 obtain ⟨A, c, h1, h2, h3⟩ := h.box
 obtain ⟨re, im, hre, ht⟩ := h.term
 exact h.only hO ⟨A, c, (hs _ k.hb).trans h1, h2.only hO, h3⟩ ⟨re, im, hre, (hs _ k.ht).trans ht⟩ (h.mem.later (hs _ k.hm)) (h.hp.later rfl rfl (hs _ k.hh) (hs _ k.hq))
theorem At.w {K : MK} {S : St} {W : World} (h : At K S W) (k : KOk K) : AtW K S W := AtW.of h (fun _ _ => rfl) k
theorem AtW.apart {K : MK} {S : St} {W W' : World} {bs0 : List Nat} (h : AtW K S W) (k : KOk K) (ho : Only bs0 W W') (hl : ∀ b ∈ K.bs, b < W.heap.size) (hd : ∀ b ∈ K.bs, b ∉ bs0) : AtW K S W' := by
 have hs : ∀ b ∈ K.bs, W'.heap[b]? = W.heap[b]? := fun b hb => ho.block (hl b hb) (hd b hb)
 obtain ⟨cs, hx, A, c, a, e⟩ := h.box
 obtain ⟨re, im, hre, ht⟩ := h.term
 exact ⟨⟨cs, (hs _ k.hb).trans hx, A, c, a, e⟩, ⟨re, im, hre, (hs _ k.ht).trans ht⟩, h.mem.later (hs _ k.hm), h.hp.later rfl rfl (hs _ k.hh) (hs _ k.hq)⟩
theorem mods_masked {w0 w : World} {A : Option Addr} {ms : List ModL} {bs : List Nat} (h : Mods w0 A ms) (hb : Below w0.heap.size w0 w) (hn : ∀ b ∈ bs, w0.heap.size ≤ b) : Mods (mask bs w) A ms := by
 refine h.later (B := w0.heap.size) ?_ (Nat.le_refl _)
 refine ⟨hb.os, hb.tape, hb.output, by rw [mask_size]; exact hb.size, fun k hk => ?_⟩
 rw [mask_at _ _ (fun hm => by have := hn k hm; omega)]
 exact hb.block k hk
theorem run_good {K : MK} (k : KOk K) {S : St} (r : Rest K S) (hs : S.steps = 0) (n : Nat) : (endOf (runF K n S)).2.2 ≤ n ∧ (endOf (runF K n S)).1 ≠ 0 := by
 have e : ((n : Int) - S.steps).toNat = n := by omega
 obtain ⟨_, _, h3, _⟩ := run_rest k n r
 unfold runF
 rw [e]
 unfold endOf
 split
 ·exact ⟨by show (runM K n S).steps ≤ n; omega, fun h => by cases h⟩
 ·rename_i h
  exact ⟨by show (runM K n S).steps ≤ n; omega, h⟩
end Go.Proofs.YtabenhpjgjjgnaaGreatDoor
/- key. -/
namespace Go.Proofs.YtabenhpjgjjgnaaGreatDoor
open Go.RowKit
set_option maxRecDepth 100000
theorem step_u64 (h : Nat) (hh : h < two64) (b : UInt8) : IntKind.u64.wrap (bits .xor .u64 (h : Int) (b.toNat : Int) * 1099511628211) = ((stepN h b : Nat) : Int) := by
 unfold two64 at hh
 rw [bits_xor_u64_nat h b.toNat hh (by have := b.toNat_lt; omega), IntKind.wrap_u64]
 unfold stepN two64
 rw [Int.natCast_emod, Int.natCast_mul]
 rfl
theorem wrapByte (b : UInt8) : IntKind.u64.wrap (b.toNat : Int) = (b.toNat : Int) := IntWalk.u64_in _ (by have := b.toNat_lt; omega)
theorem idxByte (s : List UInt8) (k : Nat) (h : k < s.length) : (⟨s.toArray⟩ : ByteArray)[k]'h = s[k] := rfl
set_option maxHeartbeats 400000 in
theorem more_any (h : Nat) (hh : h < two64) (s : List UInt8) (hs : s.length ≤ 140737488355328) (w : World) :
 Calls Tryz.prog 114 #[.int .u64 h, .string ⟨s.toArray⟩] w fun e w' => e = .returned (.int .u64 ((moreN h s : Nat) : Int)) ∧ w = w' := by
 have HH := Lib.hid hh
 clear hh
 go_enter Tryz.func114, Tryz.ntmps114
 go_wp2_with fail
 go_loopg [0, 8] (s.length) (fun g v i wr => ∃ k : Nat, k + g = s.length ∧ i = .int .i64 k ∧ v = .int .u64 ((moreN h (s.take k) : Nat) : Int) ∧ wr = w)
 case atStart => exact ⟨0, by omega, rfl, rfl, rfl⟩
 case round =>
  obtain ⟨k, hk, rfl, rfl, rfl⟩ := hrel
  by_cases hlt : k < s.length
  ·have HS := Lib.hid (moreN_snoc h s k hlt)
   have HL := Lib.hid (moreN_lt h HH.out (s.take k))
   have hkI : (k : Int) < (s.length : Int) := by omega
   have hgd := Lib.hid (show s.getD k 0 = s[k] by simp [List.getD_eq_getElem?_getD, hlt])
   generalize moreN h (s.take k) = x at *
   go_wp2_with fail
   go_roundg (gk - 1)
   case measure => omega
   case rel => exact ⟨k + 1, by omega, by go_num, by rw [HS.out, hgd.out, ← step_u64 x HL.out, wrapByte, idxByte], rfl⟩
  ·obtain rfl : k = s.length := by omega
   rw [List.take_length]
   go_wp2_with fail
   go_ret
   exact ⟨rfl, rfl⟩
theorem mix_u64 (h : Nat) (hh : h < two64) : bits .xor .u64 (h : Int) ((h : Int) / 4294967296) = ((mixN h : Nat) : Int) := xorShift_u64 h 4294967296 hh
set_option maxHeartbeats 400000 in
theorem keyOf_any (s : List UInt8) (hs : s.length ≤ 140737488355328) (w : World) :
 Calls Tryz.prog 48 #[.string ⟨s.toArray⟩] w fun e w' => e = .returned (.int .u64 ((keyN s : Nat) : Int)) ∧ w = w' := by
 have HL := Lib.hid (moreN_lt firstN firstN_lt s)
 have HK := Lib.hid (show keyN s = mixN (moreN firstN s) from rfl)
 have hbeg : Calls Tryz.prog 115 #[] w fun e w' => e = .returned (.int .u64 ((firstN : Nat) : Int)) ∧ w = w' := by
  go_enter Tryz.func115, Tryz.ntmps115
  go_wp2_with fail
  go_ret
  exact ⟨rfl, rfl⟩
 have HBeg := Lib.hid hbeg
 clear hbeg
 go_enter Tryz.func48, Tryz.ntmps48
 go_wp2_with fail
 refine HBeg.out.mono ?_
 rintro e w' ⟨rfl, rfl⟩
 go_wp2_with fail
 refine (more_any firstN firstN_lt s hs _).mono ?_
 rintro e w' ⟨rfl, rfl⟩
 generalize moreN firstN s = x at *
 go_wp2_with fail
 go_ret
 refine ⟨?_, rfl⟩
 rw [HK.out, ← mix_u64 x HL.out]
 rfl
end Go.Proofs.YtabenhpjgjjgnaaGreatDoor
/- image. -/
namespace Go.Proofs.YtabenhpjgjjgnaaGreatDoor
open Go.RowKit
set_option maxRecDepth 100000
theorem conv_at {w : World} {g o cap : Nat} {l : List UInt8} {cs : Array Value} {t : TypeId} {fz : Nat × Nat} (h : w.heap[g]? = some (.cells cs t fz)) (hl : (cs.toList.drop o).take l.length = (byteVals l).toList) (n : Nat) (hn : l.length = n) :
 (convert 61 9 (.slice (some ⟨g, o, none⟩) n cap)).run Tryz.prog w = .ok (.string ⟨l.toArray⟩) w := by
 subst hn
 rw [run_convert_bytes_string w 61 9 5 _ _ cap Tryz.underlying61 Tryz.underlying5 Tryz.underlying9]
 have hl2 := run_loadCells_list (P := Tryz.prog) w ⟨g, o, none⟩ (byteVals l).toList (fun j u hj => by
  have hj' : j < l.length := by
   have := (List.getElem?_eq_some_iff.1 hj).1
   rwa [byteVals_length] at this
  have e : (⟨g, o, none⟩ : Addr).add j = ⟨g, o + j, none⟩ := by unfold Addr.add; split <;> simp_all
  rw [e]
  rw [← hl, List.getElem?_take, if_pos hj', List.getElem?_drop] at hj
  unfold World.cell?
  rw [h]
  simpa using hj)
 rw [byteVals_length] at hl2
 rw [run_bytesToString w ⟨g, o, none⟩ l.length cap (l.map fun b => (b.toNat : Int)) (by rw [hl2]; simp [byteVals])]
 congr 2
 have : ∀ (m : List UInt8) (r : ByteArray), (m.map fun b => (b.toNat : Int)).foldl (fun r (n : Int) => r.push (UInt8.ofNat n.toNat)) r = ⟨(r.data.toList ++ m).toArray⟩ := by
  intro m
  induction m with
  | nil => intro r; apply ByteArray.ext; simp
  | cons b m ih =>
    intro r
    simp only [List.map_cons, List.foldl_cons]
    rw [ih]
    apply ByteArray.ext
    simp [ByteArray.push]
 rw [this]
 simp [ByteArray.empty, ByteArray.emptyWithCapacity]
 rfl
theorem set_block {w : World} {g o : Nat} {cs : Array Value} {t : TypeId} {fz : Nat × Nat} (h : w.heap[g]? = some (.cells cs t fz)) (v : Value) : (w.setCell ⟨g, o, none⟩ v).heap[g]? = some (.cells (cs.setIfInBounds o v) t fz) := by
 simp [World.setCell, Array.getElem?_modify, h]
theorem cell_block {w : World} {g o : Nat} {cs : Array Value} {t : TypeId} {fz : Nat × Nat} (h : w.heap[g]? = some (.cells cs t fz)) : w.cell? ⟨g, o, none⟩ = cs[o]? := by
 unfold World.cell?; rw [h]; simp
theorem frozen_block {w : World} {g o : Nat} {cs : Array Value} {t : TypeId} (h : w.heap[g]? = some (.cells cs t (0, 0))) : w.frozen? ⟨g, o, none⟩ = false := by
 unfold World.frozen?; rw [h]; simp
theorem byteVals_set (l : List UInt8) (k : Nat) (b : UInt8) : byteVals (l.set k b) = (byteVals l).setIfInBounds k (.int .u8 (b.toNat : Int)) := by
 unfold byteVals; simp [List.map_set]
theorem byteVals_at (l : List UInt8) (k : Nat) (hk : k < l.length) : (byteVals l)[k]? = some (.int .u8 ((l.getD k 0).toNat : Int)) := by
 simp [byteVals, hk, List.getD_eq_getElem?_getD]
def eightTo (n k : Nat) : List UInt8 := (eightL n).take k ++ List.replicate (8 - k) 0
theorem eightTo_length (n k : Nat) (hk : k ≤ 8) : (eightTo n k).length = 8 := by
 unfold eightTo eightL; simp [beN_length]; omega
theorem take_rep_set (l : List UInt8) (m k : Nat) (hl : l.length = m) (hk : k < m) (x : UInt8) (hx : l.getD k 0 = x) : (l.take k ++ List.replicate (m - k) 0).set k x = l.take (k + 1) ++ List.replicate (m - (k + 1)) 0 := by
 have hlk : k < l.length := by omega
 rw [List.set_append_right _ _ (by rw [List.length_take]; exact Nat.min_le_left _ _), List.length_take, Nat.min_eq_left (by omega), Nat.sub_self, List.take_succ_eq_append_getElem hlk]
 have e : m - k = (m - (k + 1)) + 1 := by omega
 rw [e, List.replicate_succ, List.set_cons_zero, List.append_assoc]
 have : l[k] = x := by rw [← hx]; simp [List.getD_eq_getElem?_getD, hlk]
 rw [this]; rfl
theorem eightTo_set (n k : Nat) (hk : k < 8) : (eightTo n k).set k (UInt8.ofNat (n / 2 ^ (56 - 8 * k) % 256)) = eightTo n (k + 1) := by
 unfold eightTo
 refine take_rep_set _ 8 k (by unfold eightL; exact beN_length _ _) hk _ ?_
 unfold eightL
 rw [beN_get _ _ _ hk]
 congr 3
 rw [show (256 : Nat) = 2 ^ 8 from rfl, ← Nat.pow_mul]
 congr 1
 omega
theorem eightTo_full (n : Nat) : eightTo n 8 = eightL n := by
 unfold eightTo eightL; rw [List.take_of_length_le (Nat.le_of_eq (beN_length n 8))]; simp
set_option maxHeartbeats 400000 in
theorem eight_any (n : Nat) (w : World) :
 Calls Tryz.prog 47 #[.int .u64 n] w fun e w' => e = .returned (.string ⟨(eightL n).toArray⟩) ∧ Below w.heap.size w w' := by
 go_enter Tryz.func47, Tryz.ntmps47
 go_wp2_with fail
 go_loopg [5] 8 (fun g i wr => ∃ k : Nat, k + g = 8 ∧ i = .int .i64 k ∧ wr.heap[w.heap.size]? = some (.cells (byteVals (eightTo n k)) 164 (0, 0)) ∧ Below w.heap.size w wr)
 case atStart => exact ⟨0, by omega, rfl, heap_alloc_new w _, alloc_below w _⟩
 case round =>
  obtain ⟨k, hk, rfl, hblk, hb⟩ := hrel
  have HBk := Lib.hid hblk
  clear hblk
  by_cases hlt : k < 8
  ·have hkI : (k : Int) < 8 := by omega
   have hc := (cell_block HBk.out (o := k)).trans (byteVals_at _ k (by rw [eightTo_length n k (by omega)]; exact hlt))
   have hf := frozen_block HBk.out (o := k)
   have HS := Lib.hid (eightTo_set n k hlt)
   have HV := Lib.hid (byteVals_set (eightTo n k) k (UInt8.ofNat (n / 2 ^ (56 - 8 * k) % 256)))
   have HU := Lib.hid (show ((UInt8.ofNat (n / 2 ^ (56 - 8 * k) % 256)).toNat : Int) = (n : Int) / 2 ^ (56 - 8 * k) % 256 by
    rw [show (UInt8.ofNat (n / 2 ^ (56 - 8 * k) % 256)).toNat = n / 2 ^ (56 - 8 * k) % 256 % 256 from UInt8.toNat_ofNat, Nat.mod_mod]
    simp)
   go_wp2_with fail
   go_roundg (gk - 1)
   case measure => omega
   case rel =>
    refine ⟨k + 1, by omega, by go_num, ?_, hb.setCell (Nat.le_refl _) _⟩
    rw [← HS.out, HV.out, HU.out]
    exact set_block HBk.out _
  ·obtain rfl : k = 8 := by omega
   rw [eightTo_full] at HBk
   have hconv := conv_at (cap := 8) (o := 0) (l := eightL n) HBk.out (by rw [List.drop_zero, List.take_of_length_le (by rw [byteVals_length]; exact Nat.le_refl _)]) 8 (beN_length _ _)
   go_wp2_with fail
   go_ret
   exact ⟨rfl, hb⟩
def beTo (n m j : Nat) : List UInt8 := List.replicate (m - j) 0 ++ (beN n m).drop (m - j)
end Go.Proofs.YtabenhpjgjjgnaaGreatDoor
/- strings. -/
namespace Go.Proofs.YtabenhpjgjjgnaaGreatDoor
open Go.RowKit Go.Shelf
set_option maxRecDepth 100000
def bldRen : Go.Shelf.Ren := ⟨fun | 166 => 106 | 167 => 104 | 240 => 189 | 276 => 242 | n => n, fun | 0 => 0 | 3 => 3 | 4 => 4 | 5 => 5 | 9 => 9 | 20 => 20 | 37 => 61 | 70 => 145 | 72 => 147 | 75 => 149 | 80 => 59 | 164 => 256 | n => n, fun n => n⟩
theorem lays166 : Lays.n166 Tryz.prog bldRen := { mixed := by kernel_rfl, f166 := Tryz.func106.trans (congrArg some (by kernel_rfl)), f240 := Tryz.func189.trans (congrArg some (by kernel_rfl)), f276 := Tryz.func242.trans (congrArg some (by kernel_rfl)), t0 := Tryz.underlying0, a0 := Tryz.isAgg0, z0 := Tryz.sizeOf0, v0 := Tryz.zeroValue0, t3 := Tryz.underlying3, a3 := Tryz.isAgg3, z3 := Tryz.sizeOf3, v3 := Tryz.zeroValue3, t4 := Tryz.underlying4, a4 := Tryz.isAgg4, z4 := Tryz.sizeOf4, v4 := Tryz.zeroValue4, t9 := Tryz.underlying9, a9 := Tryz.isAgg9, z9 := Tryz.sizeOf9, v9 := Tryz.zeroValue9, t20 := Tryz.underlying20, a20 := Tryz.isAgg20, z20 := Tryz.sizeOf20, v20 := Tryz.zeroValue20, t37 := Tryz.underlying61, a37 := Tryz.isAgg61, z37 := Tryz.sizeOf61, v37 := Tryz.zeroValue61, t70 := Tryz.underlying145, a70 := Tryz.isAgg145, z70 := Tryz.sizeOf145, v70 := Tryz.zeroValue145, t72 := Tryz.underlying147, a72 := Tryz.isAgg147, z72 := Tryz.sizeOf147, v72 := Tryz.zeroValue147, t75 := Tryz.underlying149, a75 := Tryz.isAgg149, z75 := Tryz.sizeOf149, v75 := Tryz.zeroValue149, t164 := Tryz.underlying256, a164 := Tryz.isAgg256, z164 := Tryz.sizeOf256, v164 := Tryz.zeroValue256 }
theorem lays167 : Lays.n167 Tryz.prog bldRen := { mixed := by kernel_rfl, f167 := Tryz.func104.trans (congrArg some (by kernel_rfl)), f240 := Tryz.func189.trans (congrArg some (by kernel_rfl)), f276 := Tryz.func242.trans (congrArg some (by kernel_rfl)), t0 := Tryz.underlying0, a0 := Tryz.isAgg0, z0 := Tryz.sizeOf0, v0 := Tryz.zeroValue0, t4 := Tryz.underlying4, a4 := Tryz.isAgg4, z4 := Tryz.sizeOf4, v4 := Tryz.zeroValue4, t5 := Tryz.underlying5, a5 := Tryz.isAgg5, z5 := Tryz.sizeOf5, v5 := Tryz.zeroValue5, t9 := Tryz.underlying9, a9 := Tryz.isAgg9, z9 := Tryz.sizeOf9, v9 := Tryz.zeroValue9, t20 := Tryz.underlying20, a20 := Tryz.isAgg20, z20 := Tryz.sizeOf20, v20 := Tryz.zeroValue20, t37 := Tryz.underlying61, a37 := Tryz.isAgg61, z37 := Tryz.sizeOf61, v37 := Tryz.zeroValue61, t70 := Tryz.underlying145, a70 := Tryz.isAgg145, z70 := Tryz.sizeOf145, v70 := Tryz.zeroValue145, t72 := Tryz.underlying147, a72 := Tryz.isAgg147, z72 := Tryz.sizeOf147, v72 := Tryz.zeroValue147, t75 := Tryz.underlying149, a75 := Tryz.isAgg149, z75 := Tryz.sizeOf149, v75 := Tryz.zeroValue149, t164 := Tryz.underlying256, a164 := Tryz.isAgg256, z164 := Tryz.sizeOf256, v164 := Tryz.zeroValue256 }
theorem bldExtra : Builder.Extra Tryz.prog bldRen := {
 sizeBuilder := by kernel_rfl
 liesBuilder := by kernel_rfl
 t5 := Tryz.underlying5
 a5 := Tryz.isAgg5
 z5 := Tryz.sizeOf5
 v5 := Tryz.zeroValue5
 infoByte := by kernel_rfl
 cellsByte := by kernel_rfl
 sizeByte := by kernel_rfl
 neB5 := by decide }
theorem lt_of_get {α : Type} {a : Array α} {i : Nat} {x : α} (h : a[i]? = some x) : i < a.size := by
 rcases Nat.lt_or_ge i a.size with h1 | h1
 ·exact h1
 ·rw [Array.getElem?_eq_none h1] at h; cases h
theorem own_later {w w' : World} {B : Nat} {e : TypeId} {size : Nat} {v : Value} {n : Nat} {xs : List Value} (h : w.ownsRow B e size v n xs) (hb : Below w.heap.size w w') : w'.ownsRow B e size v n xs := by
 refine ⟨h.1, ?_⟩
 rcases h.2 with hn | ⟨g, cap, cur, rfl, hB, hgg, rest⟩
 ·exact .inl hn
 ·exact .inr ⟨g, cap, cur, rfl, hB, (hb.block g (lt_of_get hgg)).trans hgg, rest⟩
theorem ownF_later {w w' : World} {B : Nat} {e : TypeId} {size : Nat} {v : Value} {n : Nat} {xs : List Value} (h : w.ownsRowF B e size v n xs) (hb : Below w.heap.size w w') : w'.ownsRowF B e size v n xs := by
 refine ⟨h.1, ?_⟩
 rcases h.2 with hn | ⟨g, cap, cur, fz, rfl, hB, hgg, rest⟩
 ·exact .inl hn
 ·exact .inr ⟨g, cap, cur, fz, rfl, hB, (hb.block g (lt_of_get hgg)).trans hgg, rest⟩
theorem builderAt_later {T e : TypeId} {B b : Nat} {p : Value} {bs : List Value} {w w' : World} (h : Lib.BuilderAtF T e B b p bs w) (hb : Below w.heap.size w w') : Lib.BuilderAtF T e B b p bs w' := by
 obtain ⟨h1, v, h2, h3, h4⟩ := h
 exact ⟨h1, v, (hb.block b (lt_of_get h2)).trans h2, ownF_later h3 hb, h4⟩
def Bld (b : Nat) (l : List UInt8) (w : World) : Prop := Lib.IsBuilderF 147 5 b b (Lib.byteCells l) w
theorem Bld.later {b : Nat} {l : List UInt8} {w w' : World} (h : Bld b l w) (hb : Below w.heap.size w w') : Bld b l w' := by
 rcases h with h | h
 ·exact .inl (builderAt_later h hb)
 ·exact .inr (builderAt_later h hb)
theorem Bld.lt {b : Nat} {l : List UInt8} {w : World} (h : Bld b l w) : b < w.heap.size := by
 rcases h with ⟨_, v, h2, _⟩ | ⟨_, v, h2, _⟩ <;> exact lt_of_get h2
theorem Bld.new (w : World) : Bld w.heap.size [] (w.alloc (.cells #[.pointer none, .slice none 0 0] 147)) := by
 rcases Lib.fresh_isBuilder 147 5 w with h | h
 ·exact .inl (Lib.BuilderAtF.of h)
 ·exact .inr (Lib.BuilderAtF.of h)
structure Wrote (b : Nat) (w w' : World) : Prop where
 below : Below b w w'
 others : Lib.OthersKept 5 (some b) w w'
def Box (k : Nat) (cs : Array Value) (T : TypeId) (w : World) : Prop := w.heap[k]? = some (.cells cs T (0, 0)) ∧ T ≠ 5
theorem Box.cell {k : Nat} {cs : Array Value} {T : TypeId} {w : World} (h : Box k cs T w) (i : Nat) : w.cell? ⟨k, i, none⟩ = cs[i]? := by unfold World.cell?; rw [h.1]; simp
theorem Box.frozen {k : Nat} {cs : Array Value} {T : TypeId} {w : World} (h : Box k cs T w) (i : Nat) : w.frozen? ⟨k, i, none⟩ = false := by unfold World.frozen?; rw [h.1]; simp
theorem Box.lt {k : Nat} {cs : Array Value} {T : TypeId} {w : World} (h : Box k cs T w) : k < w.heap.size := lt_of_get h.1
theorem Box.later {k : Nat} {cs : Array Value} {T : TypeId} {w w' : World} {B : Nat} (h : Box k cs T w) (hb : Below B w w') (hk : k < B) : Box k cs T w' := ⟨(hb.block k hk).trans h.1, h.2⟩
theorem Box.grow {k : Nat} {cs : Array Value} {T : TypeId} {w w' : World} (h : Box k cs T w) (hb : Below w.heap.size w w') : Box k cs T w' := h.later hb h.lt
theorem Box.wrote {k : Nat} {cs : Array Value} {T : TypeId} {b : Nat} {w w' : World} (h : Box k cs T w) (hb : Wrote b w w') (hk : k ≠ b) : Box k cs T w' :=
 ⟨hb.others k _ h.1 (fun e => hk (Option.some.inj e)) (fun c fz e => h.2 (by injection e)), h.2⟩
theorem Box.new (w : World) (cs : Array Value) (T : TypeId) (hT : T ≠ 5) : Box w.heap.size cs T (w.alloc (.cells cs T)) := ⟨heap_alloc_new w _, hT⟩
theorem Bld.writes {b : Nat} {l : List UInt8} (t : List UInt8) {w : World} (h : Bld b l w) (hlen : l.length + t.length ≤ 140737488355328) :
 Calls Tryz.prog 106 #[.pointer (some ⟨b, 0, none⟩), .string ⟨t.toArray⟩] w fun e w' => e = .returned (.tuple #[.int .i64 t.length, .nilIface]) ∧ Bld b (l ++ t) w' ∧ Wrote b w w' := by
 refine (Any.Builder_WriteString_k lays166 bldExtra b b _ ⟨t.toArray⟩ w h (by simpa [Lib.byteCells_length, ByteArray.size] using hlen) (Nat.le_of_lt h.lt)).mono ?_
 rintro e w' ⟨rfl, h1, h2, h3⟩
 refine ⟨rfl, ?_, h2, h3⟩
 unfold Bld
 have e : Lib.byteCells (l ++ t) = Lib.byteCells l ++ Lib.strCells ⟨t.toArray⟩ := by simp [Lib.byteCells, Lib.strCells]
 rw [e]
 exact .inr h1
theorem Bld.byte {b : Nat} {l : List UInt8} (c : UInt8) {w : World} (h : Bld b l w) (hlen : l.length + 1 ≤ 140737488355328) :
 Calls Tryz.prog 104 #[.pointer (some ⟨b, 0, none⟩), .int .u8 (c.toNat : Int)] w fun e w' => e = .returned .nilIface ∧ Bld b (l ++ [c]) w' ∧ Wrote b w w' := by
 refine (Any.Builder_WriteByte_k lays167 bldExtra b b _ (c.toNat : Int) w h (by simpa [Lib.byteCells_length] using hlen) (Nat.le_of_lt h.lt)).mono ?_
 rintro e w' ⟨rfl, h1, h2, h3⟩
 refine ⟨rfl, ?_, h2, h3⟩
 unfold Bld
 have e : Lib.byteCells (l ++ [c]) = Lib.byteCells l ++ [.int .u8 (c.toNat : Int)] := by simp [Lib.byteCells]
 rw [e]
 exact .inr h1
theorem Bld.string {b : Nat} {l : List UInt8} {w : World} (h : Bld b l w) :
 Calls Tryz.prog 107 #[.pointer (some ⟨b, 0, none⟩)] w fun e w' => e = .returned (.string ⟨l.toArray⟩) ∧ Below b w w' := (Tryz.Builder_String_any_f b b l w h (Nat.le_of_lt h.lt)).mono fun _ _ h => ⟨h.1, h.2.2⟩
end Go.Proofs.YtabenhpjgjjgnaaGreatDoor
