/- A map of the call's own that counts what was seen: look-up, update. A map from small numbers to functions, that the call itself makes: updates, look-ups. What ops do with words: word's functions, each op's closure. What ops do with words: those that divide, of one word, rows. What ops do with words: sets of a row, is it an element. A region that draws its order: a call that leaves the world alone and answers one value, whatever the world, is taken first, as a load is. Condition: what lies in memory can lie there; what each theorem says. -/
import Derived.Test.YtpfcojnkflcnoaaGreatDoorBa
import Derived.Maps.OwnOps
import Derived.Deep.DeepCutAuto
import Derived.IntWalk
import Derived.Deep.LoopGhost
import Derived.WalkLawsBesides
import Derived.Laws.ShiftsVarLaws
import Derived.Deep.RegionHeld3
/- A map of the call's own that counts what was seen: look-up, update. Condition: the key's type is an integer or string one. -/
namespace Go.Proofs.YtpfcojnkflcnoaaGreatDoor
open Go.RowKit

def seenEs {α : Type} (key : α → Value) (xs : List α) : Array MapEntry := (xs.zipIdx.map fun p => ⟨key p.1, .int .i64 1, p.2⟩).toArray
/-- At block r lies a map that has seen just these. -/
def SeenAt {α : Type} (w : World) (r : Nat) (key : α → Value) (xs : List α) : Prop := w.heap[r]? = some (.map (seenEs key xs) xs.length)
/-- The world whose block r is another one. -/
def putObj (w : World) (r : Nat) (o : Obj) : World := { w with heap := w.heap.setIfInBounds r o }
theorem putObj_size (w : World) (r : Nat) (o : Obj) : (putObj w r o).heap.size = w.heap.size := by unfold putObj; simp
theorem putObj_at {w : World} {r : Nat} {o : Obj} (h : r < w.heap.size) : (putObj w r o).heap[r]? = some o := by unfold putObj; simp [h]
theorem putObj_other {w : World} {r k : Nat} {o : Obj} (h : k ≠ r) : (putObj w r o).heap[k]? = w.heap[k]? := by
  unfold putObj; simp only; rw [Array.getElem?_setIfInBounds, if_neg (Ne.symm h)]
theorem putObj_below {B : Nat} {w0 w : World} {r : Nat} {o : Obj} (h : Below B w0 w) (hr : B ≤ r) : Below B w0 (putObj w r o) :=
  ⟨h.os, h.tape, h.output, by rw [putObj_size]; exact h.size, fun k hk => (putObj_other (by omega)).trans (h.block k hk)⟩
/-- .. which has seen these. -/
def putSeen {α : Type} (w : World) (r : Nat) (key : α → Value) (xs : List α) : World := putObj w r (.map (seenEs key xs) xs.length)
theorem putSeen_below {α : Type} {B : Nat} {w0 w : World} {r : Nat} {key : α → Value} {xs : List α} (h : Below B w0 w) (hr : B ≤ r) : Below B w0 (putSeen w r key xs) := putObj_below h hr
theorem putSeen_size {α : Type} (w : World) (r : Nat) (key : α → Value) (xs : List α) : (putSeen w r key xs).heap.size = w.heap.size := putObj_size _ _ _
theorem seenEs_snoc {α : Type} (key : α → Value) (xs : List α) (x : α) : seenEs key (xs ++ [x]) = (seenEs key xs).push ⟨key x, .int .i64 1, xs.length⟩ := by
  unfold seenEs; simp [List.zipIdx_append]
theorem SeenAt.later {α : Type} {w w' : World} {r : Nat} {key : α → Value} {xs : List α} {B : Nat} (h : SeenAt w r key xs) (hb : Below B w w') (hr : r < B) : SeenAt w' r key xs := (hb.block r hr).trans h
theorem SeenAt.new {α : Type} (w : World) (key : α → Value) : SeenAt (w.alloc (.map #[] 0)) w.heap.size key [] := heap_alloc_new w _

section
variable {α : Type} {P : Program} {mty kt et : TypeId} {d : TypeDesc} {key : α → Value}
theorem seen_find (hk : ∀ a, MapKept.IsKey d (key a)) (hinj : ∀ a b, key a = key b → a = b) (xs : List α) (x : α) :
    (x ∉ xs ∧ Instr.findNow d (key x) (seenEs key xs).toList 0 = some none) ∨ (x ∈ xs ∧ ∃ j, Instr.findNow d (key x) (seenEs key xs).toList 0 = some (some (j, .int .i64 1))) := by
  rcases MapKept.findNow_spec (hk x) (seenEs key xs).toList 0 (by
    intro e he
    simp only [seenEs, List.mem_map] at he
    obtain ⟨p, _, rfl⟩ := he
    exact hk _) with ⟨h1, h2⟩ | ⟨j, e, h1, h2, h3⟩
  · refine .inl ⟨fun hx => ?_, h1⟩
    obtain ⟨i, hi, rfl⟩ := List.getElem_of_mem hx
    refine h2 ⟨key xs[i], .int .i64 1, i⟩ ?_ rfl
    simp only [seenEs, List.mem_map]
    exact ⟨(xs[i], i), by rw [List.mem_zipIdx_iff_getElem?]; simp [hi], rfl⟩
  · have he : e ∈ (seenEs key xs).toList := List.mem_of_getElem? h2
    simp only [seenEs, List.mem_map] at he
    obtain ⟨p, hp, rfl⟩ := he
    refine .inr ⟨?_, 0 + j, h1⟩
    rw [← hinj _ _ h3]
    have := List.mem_zipIdx_iff_getElem?.1 hp
    exact List.mem_of_getElem? this
theorem seen_look [DecidableEq α] (hm : P.underlying mty = some (.map kt et)) (hd : P.underlying kt = some d) (hk : ∀ a, MapKept.IsKey d (key a)) (hinj : ∀ a b, key a = key b → a = b) (w : World) (hz : (zeroValue et).run P w = .ok (.int .i64 0) w) (r : Nat) (xs : List α) (h : SeenAt w r key xs) (x : α) :
    (Instr.lookup mty (.map (some r)) (key x) false).run P w = .ok (.int .i64 (if x ∈ xs then 1 else 0)) w := by
  rcases seen_find hk hinj xs x with ⟨hx, hf⟩ | ⟨hx, j, hf⟩
  · rw [if_neg hx]
    simp [Instr.lookup, run_underlying hm, MapKept.run_getObj_map h, MapKept.run_checkKey hd (hk x), MapKept.run_findKey hd hf, Result.andThen, hz]
  · rw [if_pos hx]
    simp [Instr.lookup, run_underlying hm, MapKept.run_getObj_map h, MapKept.run_checkKey hd (hk x), MapKept.run_findKey hd hf, Result.andThen]
theorem seen_put (hm : P.underlying mty = some (.map kt et)) (hd : P.underlying kt = some d) (hk : ∀ a, MapKept.IsKey d (key a)) (hinj : ∀ a b, key a = key b → a = b) (w : World) (r : Nat) (xs : List α) (h : SeenAt w r key xs) (x : α) (hx : x ∉ xs) :
    (Instr.mapUpdate mty (.map (some r)) (key x) (.int .i64 1)).run P w = .ok () (putSeen w r key (xs ++ [x])) := by
  rcases seen_find hk hinj xs x with ⟨_, hf⟩ | ⟨hx2, _⟩
  · simp [Instr.mapUpdate, run_underlying hm, MapKept.run_getObj_map h, MapKept.run_checkKey hd (hk x), MapKept.run_findKey hd hf, MapKept.run_setObj_map _ h, Result.andThen, seenEs_snoc, putSeen, putObj]
  · exact absurd hx2 hx
theorem seen_put_at {w : World} {r : Nat} {xs : List α} (h : SeenAt w r key xs) (x : α) : SeenAt (putSeen w r key (xs ++ [x])) r key (xs ++ [x]) :=
  putObj_at (by unfold SeenAt at h; exact (Array.getElem?_eq_some_iff.1 h).1)
end

def intKey (x : Int) : Value := .int .i64 x
def strKey (x : List UInt8) : Value := .string ⟨x.toArray⟩
theorem zero_int (w : World) : (zeroValue 3).run Tryz.prog w = .ok (.int .i64 0) w := by
  have h : (Tryz.prog.info? 3).map (fun i => i.zero) = some (some (.int .i64 0)) := by kernel_rfl
  cases hi : Tryz.prog.info? 3 with
  | none => rw [hi] at h; cases h
  | some i =>
    rw [hi] at h
    have hz : i.zero = some (.int .i64 0) := by simpa using h
    simp [zeroValue, typeInfo, hi, hz]
theorem look_int (w : World) (r : Nat) (xs : List Int) (h : SeenAt w r intKey xs) (x : Int) : (Instr.lookup 103 (.map (some r)) (.int .i64 x) false).run Tryz.prog w = .ok (.int .i64 (if x ∈ xs then 1 else 0)) w :=
  seen_look (key := intKey) Tryz.underlying103 Tryz.underlying3 (fun _ => rfl) (fun a b h => by unfold intKey at h; injection h) w (zero_int w) r xs h x
theorem put_int (w : World) (r : Nat) (xs : List Int) (h : SeenAt w r intKey xs) (x : Int) (hx : x ∉ xs) : (Instr.mapUpdate 103 (.map (some r)) (.int .i64 x) (.int .i64 1)).run Tryz.prog w = .ok () (putSeen w r intKey (xs ++ [x])) :=
  seen_put (key := intKey) Tryz.underlying103 Tryz.underlying3 (fun _ => rfl) (fun a b h => by unfold intKey at h; injection h) w r xs h x hx
theorem strKey_inj (a b : List UInt8) (h : strKey a = strKey b) : a = b := by
  unfold strKey at h; injection h with h; injection h with h; simpa using h
theorem look_str (w : World) (r : Nat) (xs : List (List UInt8)) (h : SeenAt w r strKey xs) (x : List UInt8) : (Instr.lookup 146 (.map (some r)) (.string ⟨x.toArray⟩) false).run Tryz.prog w = .ok (.int .i64 (if x ∈ xs then 1 else 0)) w := by
  have h0 := seen_look (key := strKey) Tryz.underlying146 Tryz.underlying9 (fun _ => trivial) strKey_inj w (zero_int w) r xs h x
  by_cases hx : x ∈ xs
  · rw [if_pos hx] at h0 ⊢; exact h0
  · rw [if_neg hx] at h0 ⊢; exact h0
theorem put_str (w : World) (r : Nat) (xs : List (List UInt8)) (h : SeenAt w r strKey xs) (x : List UInt8) (hx : x ∉ xs) : (Instr.mapUpdate 146 (.map (some r)) (.string ⟨x.toArray⟩) (.int .i64 1)).run Tryz.prog w = .ok () (putSeen w r strKey (xs ++ [x])) :=
  seen_put (key := strKey) Tryz.underlying146 Tryz.underlying9 (fun _ => trivial) strKey_inj w r xs h x hx
end Go.Proofs.YtpfcojnkflcnoaaGreatDoor
/- A map from small numbers to functions, that the call itself makes: updates, look-ups. No condition beyond what each theorem says. -/
namespace Go.Proofs.YtpfcojnkflcnoaaGreatDoor
open Go.RowKit
set_option maxRecDepth 100000

def fmKey (n : Nat) : Value := .int .u8 (n : Int)
def fmEs (l : List (Nat × Value)) : Array MapEntry := (l.zipIdx.map fun p => ⟨fmKey p.1.1, p.1.2, p.2⟩).toArray
/-- At block r lies a map of just these. -/
def FM (w : World) (r : Nat) (l : List (Nat × Value)) : Prop := w.heap[r]? = some (.map (fmEs l) l.length)
def putFM (w : World) (r : Nat) (l : List (Nat × Value)) : World := putObj w r (.map (fmEs l) l.length)
theorem fmEs_snoc (l : List (Nat × Value)) (n : Nat) (v : Value) : fmEs (l ++ [(n, v)]) = (fmEs l).push ⟨fmKey n, v, l.length⟩ := by
  unfold fmEs; simp [List.zipIdx_append]
theorem FM.lt {w : World} {r : Nat} {l : List (Nat × Value)} (h : FM w r l) : r < w.heap.size := by
  rcases Nat.lt_or_ge r w.heap.size with h' | h'
  · exact h'
  · have h2 : w.heap[r]? = _ := h
    rw [Array.getElem?_eq_none h'] at h2; cases h2
theorem FM.new (w : World) : FM (w.alloc (.map #[] 0)) w.heap.size [] := heap_alloc_new w _
theorem FM.later {w w' : World} {r : Nat} {l : List (Nat × Value)} (h : FM w r l) (hb : Below w.heap.size w w') : FM w' r l := (hb.block r h.lt).trans h
theorem FM.put {w : World} {r : Nat} {l : List (Nat × Value)} (h : FM w r l) (l' : List (Nat × Value)) : FM (putFM w r l') r l' := putObj_at h.lt
section
variable {P : Program} {mty kt et : TypeId}
theorem fmKey_inj (a b : Nat) (h : fmKey a = fmKey b) : a = b := by unfold fmKey at h; injection h with _ h; omega
theorem fm_find (l : List (Nat × Value)) (x : Nat) :
    (x ∉ l.map (·.1) ∧ Instr.findNow (.int .u8) (fmKey x) (fmEs l).toList 0 = some none) ∨ (∃ v j, (x, v) ∈ l ∧ Instr.findNow (.int .u8) (fmKey x) (fmEs l).toList 0 = some (some (j, v))) := by
  rcases MapKept.findNow_spec (d := .int .u8) (k := fmKey x) rfl (fmEs l).toList 0 (by
    intro e he
    simp only [fmEs, List.mem_map] at he
    obtain ⟨p, _, rfl⟩ := he
    exact rfl) with ⟨h1, h2⟩ | ⟨j, e, h1, h2, h3⟩
  · refine .inl ⟨fun hx => ?_, h1⟩
    obtain ⟨y, hy, rfl⟩ := List.mem_map.1 hx
    obtain ⟨i, hi, rfl⟩ := List.getElem_of_mem hy
    refine h2 ⟨fmKey l[i].1, l[i].2, i⟩ ?_ rfl
    simp only [fmEs, List.mem_map]
    exact ⟨(l[i], i), by rw [List.mem_zipIdx_iff_getElem?]; simp [hi], rfl⟩
  · have he : e ∈ (fmEs l).toList := List.mem_of_getElem? h2
    simp only [fmEs, List.mem_map] at he
    obtain ⟨p, hp, rfl⟩ := he
    have hm := List.mem_of_getElem? (List.mem_zipIdx_iff_getElem?.1 hp)
    refine .inr ⟨p.1.2, 0 + j, ?_, h1⟩
    have := fmKey_inj _ _ h3
    rw [← this]
    exact hm
theorem fm_put (hm : P.underlying mty = some (.map kt et)) (hd : P.underlying kt = some (.int .u8)) (w : World) (r : Nat) (l : List (Nat × Value)) (h : FM w r l) (x : Nat) (v : Value) (hx : x ∉ l.map (·.1)) :
    (Instr.mapUpdate mty (.map (some r)) (.int .u8 (x : Int)) v).run P w = .ok () (putFM w r (l ++ [(x, v)])) := by
  rcases fm_find l x with ⟨_, hf⟩ | ⟨v', j, hx2, _⟩
  · show (Instr.mapUpdate mty (.map (some r)) (fmKey x) v).run P w = _
    simp [Instr.mapUpdate, run_underlying hm, MapKept.run_getObj_map h, MapKept.run_checkKey (k := fmKey x) hd rfl, MapKept.run_findKey hd hf, MapKept.run_setObj_map _ h, Result.andThen, fmEs_snoc, putFM, putObj]
  · exact absurd (List.mem_map.2 ⟨_, hx2, rfl⟩) hx
theorem fm_uniq {l : List (Nat × Value)} (hn : (l.map (·.1)).Nodup) {x : Nat} {u v : Value} (h1 : (x, u) ∈ l) (h2 : (x, v) ∈ l) : u = v := by
  induction l with
  | nil => cases h1
  | cons p l ih =>
    simp only [List.map_cons, List.nodup_cons] at hn
    rcases List.mem_cons.1 h1 with e1 | e1
    · rcases List.mem_cons.1 h2 with e2 | e2
      · rw [← e2] at e1; exact (Prod.mk.inj e1).2
      · exact absurd (List.mem_map.2 ⟨_, e2, by rw [← e1]⟩) hn.1
    · rcases List.mem_cons.1 h2 with e2 | e2
      · exact absurd (List.mem_map.2 ⟨_, e1, by rw [← e2]⟩) hn.1
      · exact ih hn.2 e1 e2
theorem fm_look (hm : P.underlying mty = some (.map kt et)) (hd : P.underlying kt = some (.int .u8)) (w : World) (r : Nat) (l : List (Nat × Value)) (h : FM w r l) (hn : (l.map (·.1)).Nodup) (x : Nat) (v : Value) (hx : (x, v) ∈ l) :
    (Instr.lookup mty (.map (some r)) (.int .u8 (x : Int)) false).run P w = .ok v w ∧ (Instr.lookup mty (.map (some r)) (.int .u8 (x : Int)) true).run P w = .ok (.tuple #[v, .bool true]) w := by
  rcases fm_find l x with ⟨hx2, _⟩ | ⟨v', j, hx2, hf⟩
  · exact absurd (List.mem_map.2 ⟨_, hx, rfl⟩) hx2
  · have e := fm_uniq hn hx hx2
    subst e
    constructor
    · show (Instr.lookup mty (.map (some r)) (fmKey x) false).run P w = _
      simp [Instr.lookup, run_underlying hm, MapKept.run_getObj_map h, MapKept.run_checkKey (k := fmKey x) hd rfl, MapKept.run_findKey hd hf, Result.andThen]
    · show (Instr.lookup mty (.map (some r)) (fmKey x) true).run P w = _
      simp [Instr.lookup, run_underlying hm, MapKept.run_getObj_map h, MapKept.run_checkKey (k := fmKey x) hd rfl, MapKept.run_findKey hd hf, Result.andThen]
/-- At a plain region's list: an insertion. -/
theorem wpList_ins {ops : Array Oper} {rest : List Oper} {o : Oper} {a : Act} {w : World} {Q : Exit → Act → World → Prop} (hm : P.underlying mty = some (.map kt et)) (hd : P.underlying kt = some (.int .u8)) (hgd : o.guard = none) (m k x : Operand) (ho : o.op = .insert mty m k x)
    (r : Nat) (hmv : a.eval m = .map (some r)) (n : Nat) (hkv : a.eval k = .int .u8 (n : Int)) (v : Value) (hxv : a.eval x = v) (l : List (Nat × Value)) (hF : FM w r l) (hn : n ∉ l.map (·.1))
    (h : ∀ w', w' = putFM w r (l ++ [(n, v)]) → wpList P ops Q rest a w') (hdst : o.dst = none) : wpList P ops Q (o :: rest) a w :=
  wpList_plain hgd fun K hK => by
    have hr := fm_put hm hd w r l hF n v hn
    unfold Oper.wp execOp
    simp only [ho, hmv, hkv, hxv, hr, Sem.run_bind, Sem.run_pure, Result.andThen_ok]
    have e : a.put o.dst undef = a := by rw [hdst]; rfl
    exact hK _ _ (by rw [e]; exact h _ rfl)
end
end Go.Proofs.YtpfcojnkflcnoaaGreatDoor
/- What ops do with words: word's functions, each op's closure. No condition beyond what each theorem says. (Printed by gen_ma.py.) -/
namespace Go.Proofs.YtpfcojnkflcnoaaGreatDoor
open Go.RowKit
set_option maxRecDepth 100000

/-- A word as a signed number. -/
def sg (a : Nat) : Int := if a < 32768 then (a : Int) else (a : Int) - 65536
theorem sg_le (a : Nat) (h : a < 65536) : -32768 ≤ sg a ∧ sg a ≤ 32767 := by unfold sg; split <;> omega
theorem int_any (a : Nat) (h : a < 65536) (W : World) : Calls Tryz.prog 180 #[.int .u16 a] W fun e w' => e = .returned (.int .i64 (sg a)) ∧ W = w' := by
  have hw : IntKind.i16.wrap (a : Int) = sg a := by
    unfold sg
    split
    · exact IntWalk.i16_in _ (by omega)
    · have e : (a : Int) % (2 ^ IntKind.i16.bits : Int) = a := by show (a : Int) % 65536 = a; omega
      unfold IntKind.wrap
      rw [e]
      show (if (true && decide ((a : Int) ≥ 32768)) = true then (a : Int) - 65536 else (a : Int)) = _
      rw [if_pos (by simp; omega)]
  have hs := sg_le a h
  have hw2 : IntKind.i64.wrap (sg a) = sg a := IntWalk.i64_in _ (by omega)
  go_enter Tryz.func180, Tryz.ntmps180
  go_wp2_with fail
  go_ret
  first | rfl | exact ⟨rfl, rfl⟩ | exact ⟨by rw [hw], rfl⟩
/-- How a word and a trap are handed back. -/
def WtEnd (W : World) (r : Int × Nat) (e : Ending) (w' : World) : Prop := e = .returned (.tuple #[.int .u16 r.1, .int .u8 (r.2 : Nat)]) ∧ Below W.heap.size W w'
def fitsI (n lo hi : Int) : Int × Nat := if n < lo ∨ hi < n then (0, 1) else (n % 65536, 0)
theorem fits_any (n lo hi : Int) (W : World) : Calls Tryz.prog 260 #[.int .i64 n, .int .i64 lo, .int .i64 hi] W (WtEnd W (fitsI n lo hi)) := by
  unfold fitsI
  by_cases h1 : n < lo
  · rw [if_pos (.inl h1)]
    go_enter Tryz.func260, Tryz.ntmps260
    go_wp2_with fail
    go_ret2
    exact ⟨rfl, Below.refl _ _⟩
  · have d1 := decide_eq_false h1
    by_cases h2 : hi < n
    · rw [if_pos (.inr h2)]
      clear h1
      go_enter Tryz.func260, Tryz.ntmps260
      go_wp2_with fail
      go_ret2
      exact ⟨rfl, Below.refl _ _⟩
    · have d2 := decide_eq_false h2
      rw [if_neg (by omega)]
      clear h1 h2
      have hw := IntKind.wrap_u16 n
      go_enter Tryz.func260, Tryz.ntmps260
      go_wp2_with fail
      go_ret2
      exact ⟨rfl, Below.refl _ _⟩
def signedI (n : Int) : Int × Nat := fitsI n (-32768) 32767
def bareI (n : Int) : Int × Nat := fitsI n 0 65535
theorem signed_any (n : Int) (W : World) : Calls Tryz.prog 197 #[.int .i64 n] W (WtEnd W (signedI n)) := by
  have HE := Lib.hid (show signedI n = fitsI n (-32768) 32767 from rfl)
  go_enter Tryz.func197, Tryz.ntmps197
  go_wp2_with fail
  refine (fits_any n _ _ W).mono ?_
  rintro e w1 ⟨rfl, hb⟩
  rw [← HE.out]
  go_wp2_with fail
  go_ret2
  exact ⟨rfl, hb⟩
theorem bare_any (n : Int) (W : World) : Calls Tryz.prog 208 #[.int .i64 n] W (WtEnd W (bareI n)) := by
  have HE := Lib.hid (show bareI n = fitsI n 0 65535 from rfl)
  go_enter Tryz.func208, Tryz.ntmps208
  go_wp2_with fail
  refine (fits_any n _ _ W).mono ?_
  rintro e w1 ⟨rfl, hb⟩
  rw [← HE.out]
  go_wp2_with fail
  go_ret2
  exact ⟨rfl, hb⟩
def isI (b : Bool) : Int × Nat := (if b then 1 else 0, 0)
theorem is_any (b : Bool) (W : World) : Calls Tryz.prog 216 #[.bool b] W (WtEnd W (isI b)) := by
  unfold isI
  cases b
  all_goals
    go_enter Tryz.func216, Tryz.ntmps216
    go_wp2_with fail
    go_ret2
    exact ⟨rfl, Below.refl _ _⟩
theorem plain_any (n : Int) (W : World) : Calls Tryz.prog 230 #[.int .u16 n] W (WtEnd W (n, 0)) := by
  go_enter Tryz.func230, Tryz.ntmps230
  go_wp2_with fail
  go_ret2
  exact ⟨rfl, Below.refl _ _⟩
def asksB (how : Nat) (a b : Int) : Bool := match how with
  | 0 => decide (a < b)
  | 1 => decide (a ≤ b)
  | 2 => decide (b < a)
  | _ => decide (b ≤ a)
theorem asks_i64 (how : Nat) (hh : how < 4) (a b : Int) (W : World) : Calls Tryz.prog 219 #[.int .u8 how, .int .i64 a, .int .i64 b] W (WtEnd W (isI (asksB how a b))) := by
  have i0 := fun (x0 x1 x2 x3 : Bool) (w : World) => (show (Instr.index 270 (.agg #[.bool x0, .bool x1, .bool x2, .bool x3]) (.int .u8 0)).run Tryz.prog w = .ok (.bool x0) w by kernel_rfl)
  have i1 := fun (x0 x1 x2 x3 : Bool) (w : World) => (show (Instr.index 270 (.agg #[.bool x0, .bool x1, .bool x2, .bool x3]) (.int .u8 1)).run Tryz.prog w = .ok (.bool x1) w by kernel_rfl)
  have i2 := fun (x0 x1 x2 x3 : Bool) (w : World) => (show (Instr.index 270 (.agg #[.bool x0, .bool x1, .bool x2, .bool x3]) (.int .u8 2)).run Tryz.prog w = .ok (.bool x2) w by kernel_rfl)
  have i3 := fun (x0 x1 x2 x3 : Bool) (w : World) => (show (Instr.index 270 (.agg #[.bool x0, .bool x1, .bool x2, .bool x3]) (.int .u8 3)).run Tryz.prog w = .ok (.bool x3) w by kernel_rfl)
  have h4 : how = 0 ∨ how = 1 ∨ how = 2 ∨ how = 3 := by omega
  clear hh
  rcases h4 with rfl | rfl | rfl | rfl
  all_goals
    unfold asksB
    go_enter Tryz.func219, Tryz.ntmps219
    go_wp2_with fail
    refine (is_any _ W).mono ?_
    rintro e w1 ⟨rfl, hb⟩
    go_wp2_with fail
    go_ret2
    exact ⟨rfl, hb⟩
theorem asks_u16 (how : Nat) (hh : how < 4) (a b : Int) (W : World) : Calls Tryz.prog 224 #[.int .u8 how, .int .u16 a, .int .u16 b] W (WtEnd W (isI (asksB how a b))) := by
  have i0 := fun (x0 x1 x2 x3 : Bool) (w : World) => (show (Instr.index 270 (.agg #[.bool x0, .bool x1, .bool x2, .bool x3]) (.int .u8 0)).run Tryz.prog w = .ok (.bool x0) w by kernel_rfl)
  have i1 := fun (x0 x1 x2 x3 : Bool) (w : World) => (show (Instr.index 270 (.agg #[.bool x0, .bool x1, .bool x2, .bool x3]) (.int .u8 1)).run Tryz.prog w = .ok (.bool x1) w by kernel_rfl)
  have i2 := fun (x0 x1 x2 x3 : Bool) (w : World) => (show (Instr.index 270 (.agg #[.bool x0, .bool x1, .bool x2, .bool x3]) (.int .u8 2)).run Tryz.prog w = .ok (.bool x2) w by kernel_rfl)
  have i3 := fun (x0 x1 x2 x3 : Bool) (w : World) => (show (Instr.index 270 (.agg #[.bool x0, .bool x1, .bool x2, .bool x3]) (.int .u8 3)).run Tryz.prog w = .ok (.bool x3) w by kernel_rfl)
  have h4 : how = 0 ∨ how = 1 ∨ how = 2 ∨ how = 3 := by omega
  clear hh
  rcases h4 with rfl | rfl | rfl | rfl
  all_goals
    unfold asksB
    go_enter Tryz.func224, Tryz.ntmps224
    go_wp2_with fail
    refine (is_any _ W).mono ?_
    rintro e w1 ⟨rfl, hb⟩
    go_wp2_with fail
    go_ret2
    exact ⟨rfl, hb⟩
theorem mul_bd (x y M : Int) (h1 : -M ≤ x) (h2 : x ≤ M) (h3 : -M ≤ y) (h4 : y ≤ M) : -(M * M) ≤ x * y ∧ x * y ≤ M * M := by
  have hM : 0 ≤ M := by omega
  have a1 : 0 ≤ (M - x) * (M + y) := Int.mul_nonneg (by omega) (by omega)
  have a2 : 0 ≤ (M + x) * (M - y) := Int.mul_nonneg (by omega) (by omega)
  have a3 : 0 ≤ (M - x) * (M - y) := Int.mul_nonneg (by omega) (by omega)
  have a4 : 0 ≤ (M + x) * (M + y) := Int.mul_nonneg (by omega) (by omega)
  simp only [Int.sub_mul, Int.mul_sub, Int.add_mul, Int.mul_add] at a1 a2 a3 a4
  rw [Int.mul_comm M y] at a1 a2 a3 a4
  constructor <;> omega
theorem does1 (x y : Int) (h1 : -32768 ≤ x) (h2 : x ≤ 32767) (h3 : -32768 ≤ y) (h4 : y ≤ 32767) (p q : Nat) (W : World) (c0 : W.cell? ⟨p, 0, none⟩ = some (.int .i64 x)) (c1 : W.cell? ⟨q, 0, none⟩ = some (.int .i64 y)) : Calls Tryz.prog 196 #[.pointer (some ⟨p, 0, none⟩), .pointer (some ⟨q, 0, none⟩)] W (WtEnd W (signedI (x + y))) := by
  go_enter Tryz.func196, Tryz.ntmps196
  go_wp2_with fail
  refine (signed_any _ W).mono ?_
  rintro e w1 ⟨rfl, hb⟩
  go_wp2_with fail
  go_ret2
  exact ⟨rfl, hb⟩
theorem does2 (x y : Int) (h1 : -32768 ≤ x) (h2 : x ≤ 32767) (h3 : -32768 ≤ y) (h4 : y ≤ 32767) (p q : Nat) (W : World) (c0 : W.cell? ⟨p, 0, none⟩ = some (.int .i64 x)) (c1 : W.cell? ⟨q, 0, none⟩ = some (.int .i64 y)) : Calls Tryz.prog 198 #[.pointer (some ⟨p, 0, none⟩), .pointer (some ⟨q, 0, none⟩)] W (WtEnd W (signedI (x - y))) := by
  go_enter Tryz.func198, Tryz.ntmps198
  go_wp2_with fail
  refine (signed_any _ W).mono ?_
  rintro e w1 ⟨rfl, hb⟩
  go_wp2_with fail
  go_ret2
  exact ⟨rfl, hb⟩
theorem does3 (x y : Int) (h1 : -32768 ≤ x) (h2 : x ≤ 32767) (h3 : -32768 ≤ y) (h4 : y ≤ 32767) (p q : Nat) (W : World) (c0 : W.cell? ⟨p, 0, none⟩ = some (.int .i64 x)) (c1 : W.cell? ⟨q, 0, none⟩ = some (.int .i64 y)) : Calls Tryz.prog 199 #[.pointer (some ⟨p, 0, none⟩), .pointer (some ⟨q, 0, none⟩)] W (WtEnd W (signedI (x * y))) := by
  have m1 : -1073741824 ≤ x * y ∧ x * y ≤ 1073741824 := mul_bd x y 32768 (by omega) (by omega) (by omega) (by omega)
  obtain ⟨m1, m2⟩ := m1
  have hw : IntKind.i64.wrap (x * y) = x * y := IntWalk.i64_in _ (by omega)
  go_enter Tryz.func199, Tryz.ntmps199
  go_wp2_with fail
  refine (signed_any _ W).mono ?_
  rintro e w1 ⟨rfl, hb⟩
  go_wp2_with fail
  go_ret2
  exact ⟨rfl, hb⟩
theorem does8 (u v : Int) (h1 : 0 ≤ u) (h2 : u ≤ 65535) (h3 : 0 ≤ v) (h4 : v ≤ 65535) (p q : Nat) (W : World) (c0 : W.cell? ⟨p, 0, none⟩ = some (.int .i64 u)) (c1 : W.cell? ⟨q, 0, none⟩ = some (.int .i64 v)) : Calls Tryz.prog 207 #[.pointer (some ⟨p, 0, none⟩), .pointer (some ⟨q, 0, none⟩)] W (WtEnd W (bareI (u + v))) := by
  go_enter Tryz.func207, Tryz.ntmps207
  go_wp2_with fail
  refine (bare_any _ W).mono ?_
  rintro e w1 ⟨rfl, hb⟩
  go_wp2_with fail
  go_ret2
  exact ⟨rfl, hb⟩
theorem does9 (u v : Int) (h1 : 0 ≤ u) (h2 : u ≤ 65535) (h3 : 0 ≤ v) (h4 : v ≤ 65535) (p q : Nat) (W : World) (c0 : W.cell? ⟨p, 0, none⟩ = some (.int .i64 u)) (c1 : W.cell? ⟨q, 0, none⟩ = some (.int .i64 v)) : Calls Tryz.prog 209 #[.pointer (some ⟨p, 0, none⟩), .pointer (some ⟨q, 0, none⟩)] W (WtEnd W (bareI (u - v))) := by
  go_enter Tryz.func209, Tryz.ntmps209
  go_wp2_with fail
  refine (bare_any _ W).mono ?_
  rintro e w1 ⟨rfl, hb⟩
  go_wp2_with fail
  go_ret2
  exact ⟨rfl, hb⟩
theorem does10 (u v : Int) (h1 : 0 ≤ u) (h2 : u ≤ 65535) (h3 : 0 ≤ v) (h4 : v ≤ 65535) (p q : Nat) (W : World) (c0 : W.cell? ⟨p, 0, none⟩ = some (.int .i64 u)) (c1 : W.cell? ⟨q, 0, none⟩ = some (.int .i64 v)) : Calls Tryz.prog 210 #[.pointer (some ⟨p, 0, none⟩), .pointer (some ⟨q, 0, none⟩)] W (WtEnd W (bareI (u * v))) := by
  have m1 : -4294967296 ≤ u * v ∧ u * v ≤ 4294967296 := mul_bd u v 65536 (by omega) (by omega) (by omega) (by omega)
  obtain ⟨m1, m2⟩ := m1
  have hw : IntKind.i64.wrap (u * v) = u * v := IntWalk.i64_in _ (by omega)
  go_enter Tryz.func210, Tryz.ntmps210
  go_wp2_with fail
  refine (bare_any _ W).mono ?_
  rintro e w1 ⟨rfl, hb⟩
  go_wp2_with fail
  go_ret2
  exact ⟨rfl, hb⟩
theorem does13 (a b : Nat) (_h1 : a < 65536) (_h2 : b < 65536) (p q : Nat) (W : World) (c0 : W.cell? ⟨p, 0, none⟩ = some (.int .u16 (a : Int))) (c1 : W.cell? ⟨q, 0, none⟩ = some (.int .u16 (b : Int))) : Calls Tryz.prog 215 #[.pointer (some ⟨p, 0, none⟩), .pointer (some ⟨q, 0, none⟩)] W (WtEnd W (isI ((a : Int) == b))) := by
  go_enter Tryz.func215, Tryz.ntmps215
  go_wp2_with fail
  refine (is_any _ W).mono ?_
  rintro e w1 ⟨rfl, hb⟩
  go_wp2_with fail
  go_ret2
  exact ⟨rfl, hb⟩
theorem does14 (a b : Nat) (_h1 : a < 65536) (_h2 : b < 65536) (p q : Nat) (W : World) (c0 : W.cell? ⟨p, 0, none⟩ = some (.int .u16 (a : Int))) (c1 : W.cell? ⟨q, 0, none⟩ = some (.int .u16 (b : Int))) : Calls Tryz.prog 217 #[.pointer (some ⟨p, 0, none⟩), .pointer (some ⟨q, 0, none⟩)] W (WtEnd W (isI ((a : Int) != b))) := by
  go_enter Tryz.func217, Tryz.ntmps217
  go_wp2_with fail
  refine (is_any _ W).mono ?_
  rintro e w1 ⟨rfl, hb⟩
  go_wp2_with fail
  go_ret2
  exact ⟨rfl, hb⟩
theorem does15 (x y : Int) (_h1 : -32768 ≤ x) (_h2 : x ≤ 32767) (_h3 : -32768 ≤ y) (_h4 : y ≤ 32767) (p q : Nat) (W : World) (c0 : W.cell? ⟨p, 0, none⟩ = some (.int .i64 x)) (c1 : W.cell? ⟨q, 0, none⟩ = some (.int .i64 y)) : Calls Tryz.prog 218 #[.pointer (some ⟨p, 0, none⟩), .pointer (some ⟨q, 0, none⟩)] W (WtEnd W (isI (asksB 0 x y))) := by
  go_enter Tryz.func218, Tryz.ntmps218
  go_wp2_with fail
  refine (asks_i64 0 (by omega) _ _ W).mono ?_
  rintro e w1 ⟨rfl, hb⟩
  go_wp2_with fail
  go_ret2
  exact ⟨rfl, hb⟩
theorem does16 (x y : Int) (_h1 : -32768 ≤ x) (_h2 : x ≤ 32767) (_h3 : -32768 ≤ y) (_h4 : y ≤ 32767) (p q : Nat) (W : World) (c0 : W.cell? ⟨p, 0, none⟩ = some (.int .i64 x)) (c1 : W.cell? ⟨q, 0, none⟩ = some (.int .i64 y)) : Calls Tryz.prog 220 #[.pointer (some ⟨p, 0, none⟩), .pointer (some ⟨q, 0, none⟩)] W (WtEnd W (isI (asksB 1 x y))) := by
  go_enter Tryz.func220, Tryz.ntmps220
  go_wp2_with fail
  refine (asks_i64 1 (by omega) _ _ W).mono ?_
  rintro e w1 ⟨rfl, hb⟩
  go_wp2_with fail
  go_ret2
  exact ⟨rfl, hb⟩
theorem does17 (x y : Int) (_h1 : -32768 ≤ x) (_h2 : x ≤ 32767) (_h3 : -32768 ≤ y) (_h4 : y ≤ 32767) (p q : Nat) (W : World) (c0 : W.cell? ⟨p, 0, none⟩ = some (.int .i64 x)) (c1 : W.cell? ⟨q, 0, none⟩ = some (.int .i64 y)) : Calls Tryz.prog 221 #[.pointer (some ⟨p, 0, none⟩), .pointer (some ⟨q, 0, none⟩)] W (WtEnd W (isI (asksB 2 x y))) := by
  go_enter Tryz.func221, Tryz.ntmps221
  go_wp2_with fail
  refine (asks_i64 2 (by omega) _ _ W).mono ?_
  rintro e w1 ⟨rfl, hb⟩
  go_wp2_with fail
  go_ret2
  exact ⟨rfl, hb⟩
theorem does18 (x y : Int) (_h1 : -32768 ≤ x) (_h2 : x ≤ 32767) (_h3 : -32768 ≤ y) (_h4 : y ≤ 32767) (p q : Nat) (W : World) (c0 : W.cell? ⟨p, 0, none⟩ = some (.int .i64 x)) (c1 : W.cell? ⟨q, 0, none⟩ = some (.int .i64 y)) : Calls Tryz.prog 222 #[.pointer (some ⟨p, 0, none⟩), .pointer (some ⟨q, 0, none⟩)] W (WtEnd W (isI (asksB 3 x y))) := by
  go_enter Tryz.func222, Tryz.ntmps222
  go_wp2_with fail
  refine (asks_i64 3 (by omega) _ _ W).mono ?_
  rintro e w1 ⟨rfl, hb⟩
  go_wp2_with fail
  go_ret2
  exact ⟨rfl, hb⟩
theorem does19 (a b : Nat) (_h1 : a < 65536) (_h2 : b < 65536) (p q : Nat) (W : World) (c0 : W.cell? ⟨p, 0, none⟩ = some (.int .u16 (a : Int))) (c1 : W.cell? ⟨q, 0, none⟩ = some (.int .u16 (b : Int))) : Calls Tryz.prog 223 #[.pointer (some ⟨p, 0, none⟩), .pointer (some ⟨q, 0, none⟩)] W (WtEnd W (isI (asksB 0 a b))) := by
  go_enter Tryz.func223, Tryz.ntmps223
  go_wp2_with fail
  refine (asks_u16 0 (by omega) _ _ W).mono ?_
  rintro e w1 ⟨rfl, hb⟩
  go_wp2_with fail
  go_ret2
  exact ⟨rfl, hb⟩
theorem does20 (a b : Nat) (_h1 : a < 65536) (_h2 : b < 65536) (p q : Nat) (W : World) (c0 : W.cell? ⟨p, 0, none⟩ = some (.int .u16 (a : Int))) (c1 : W.cell? ⟨q, 0, none⟩ = some (.int .u16 (b : Int))) : Calls Tryz.prog 225 #[.pointer (some ⟨p, 0, none⟩), .pointer (some ⟨q, 0, none⟩)] W (WtEnd W (isI (asksB 1 a b))) := by
  go_enter Tryz.func225, Tryz.ntmps225
  go_wp2_with fail
  refine (asks_u16 1 (by omega) _ _ W).mono ?_
  rintro e w1 ⟨rfl, hb⟩
  go_wp2_with fail
  go_ret2
  exact ⟨rfl, hb⟩
theorem does21 (a b : Nat) (_h1 : a < 65536) (_h2 : b < 65536) (p q : Nat) (W : World) (c0 : W.cell? ⟨p, 0, none⟩ = some (.int .u16 (a : Int))) (c1 : W.cell? ⟨q, 0, none⟩ = some (.int .u16 (b : Int))) : Calls Tryz.prog 226 #[.pointer (some ⟨p, 0, none⟩), .pointer (some ⟨q, 0, none⟩)] W (WtEnd W (isI (asksB 2 a b))) := by
  go_enter Tryz.func226, Tryz.ntmps226
  go_wp2_with fail
  refine (asks_u16 2 (by omega) _ _ W).mono ?_
  rintro e w1 ⟨rfl, hb⟩
  go_wp2_with fail
  go_ret2
  exact ⟨rfl, hb⟩
theorem does22 (a b : Nat) (_h1 : a < 65536) (_h2 : b < 65536) (p q : Nat) (W : World) (c0 : W.cell? ⟨p, 0, none⟩ = some (.int .u16 (a : Int))) (c1 : W.cell? ⟨q, 0, none⟩ = some (.int .u16 (b : Int))) : Calls Tryz.prog 227 #[.pointer (some ⟨p, 0, none⟩), .pointer (some ⟨q, 0, none⟩)] W (WtEnd W (isI (asksB 3 a b))) := by
  go_enter Tryz.func227, Tryz.ntmps227
  go_wp2_with fail
  refine (asks_u16 3 (by omega) _ _ W).mono ?_
  rintro e w1 ⟨rfl, hb⟩
  go_wp2_with fail
  go_ret2
  exact ⟨rfl, hb⟩
theorem does24 (a b : Nat) (_h1 : a < 65536) (_h2 : b < 65536) (p q : Nat) (W : World) (c0 : W.cell? ⟨p, 0, none⟩ = some (.int .u16 (a : Int))) (c1 : W.cell? ⟨q, 0, none⟩ = some (.int .u16 (b : Int))) : Calls Tryz.prog 229 #[.pointer (some ⟨p, 0, none⟩), .pointer (some ⟨q, 0, none⟩)] W (WtEnd W ((bits .or .u16 (a : Int) (b : Int), 0))) := by
  go_enter Tryz.func229, Tryz.ntmps229
  go_wp2_with fail
  refine (plain_any _ W).mono ?_
  rintro e w1 ⟨rfl, hb⟩
  go_wp2_with fail
  go_ret2
  exact ⟨rfl, hb⟩
theorem does25 (a b : Nat) (_h1 : a < 65536) (_h2 : b < 65536) (p q : Nat) (W : World) (c0 : W.cell? ⟨p, 0, none⟩ = some (.int .u16 (a : Int))) (c1 : W.cell? ⟨q, 0, none⟩ = some (.int .u16 (b : Int))) : Calls Tryz.prog 231 #[.pointer (some ⟨p, 0, none⟩), .pointer (some ⟨q, 0, none⟩)] W (WtEnd W ((bits .andNot .u16 (a : Int) (b : Int), 0))) := by
  go_enter Tryz.func231, Tryz.ntmps231
  go_wp2_with fail
  refine (plain_any _ W).mono ?_
  rintro e w1 ⟨rfl, hb⟩
  go_wp2_with fail
  go_ret2
  exact ⟨rfl, hb⟩
theorem does26 (a b : Nat) (_h1 : a < 65536) (_h2 : b < 65536) (p q : Nat) (W : World) (c0 : W.cell? ⟨p, 0, none⟩ = some (.int .u16 (a : Int))) (c1 : W.cell? ⟨q, 0, none⟩ = some (.int .u16 (b : Int))) : Calls Tryz.prog 232 #[.pointer (some ⟨p, 0, none⟩), .pointer (some ⟨q, 0, none⟩)] W (WtEnd W ((bits .and .u16 (a : Int) (b : Int), 0))) := by
  go_enter Tryz.func232, Tryz.ntmps232
  go_wp2_with fail
  refine (plain_any _ W).mono ?_
  rintro e w1 ⟨rfl, hb⟩
  go_wp2_with fail
  go_ret2
  exact ⟨rfl, hb⟩
theorem does27 (a b : Nat) (_h1 : a < 65536) (_h2 : b < 65536) (p q : Nat) (W : World) (c0 : W.cell? ⟨p, 0, none⟩ = some (.int .u16 (a : Int))) (c1 : W.cell? ⟨q, 0, none⟩ = some (.int .u16 (b : Int))) : Calls Tryz.prog 233 #[.pointer (some ⟨p, 0, none⟩), .pointer (some ⟨q, 0, none⟩)] W (WtEnd W ((bits .xor .u16 (a : Int) (b : Int), 0))) := by
  go_enter Tryz.func233, Tryz.ntmps233
  go_wp2_with fail
  refine (plain_any _ W).mono ?_
  rintro e w1 ⟨rfl, hb⟩
  go_wp2_with fail
  go_ret2
  exact ⟨rfl, hb⟩
theorem does29 (a b : Nat) (_h1 : a < 65536) (_h2 : b < 65536) (p q : Nat) (W : World) (c0 : W.cell? ⟨p, 0, none⟩ = some (.int .u16 (a : Int))) (c1 : W.cell? ⟨q, 0, none⟩ = some (.int .u16 (b : Int))) : Calls Tryz.prog 235 #[.pointer (some ⟨p, 0, none⟩), .pointer (some ⟨q, 0, none⟩)] W (WtEnd W (isI (bits .andNot .u16 (a : Int) (b : Int) == 0))) := by
  go_enter Tryz.func235, Tryz.ntmps235
  go_wp2_with fail
  refine (is_any _ W).mono ?_
  rintro e w1 ⟨rfl, hb⟩
  go_wp2_with fail
  go_ret2
  exact ⟨rfl, hb⟩
end Go.Proofs.YtpfcojnkflcnoaaGreatDoor
/- What ops do with words: those that divide, of one word, rows. No condition beyond what each theorem says. (Printed by gen_mb.py.) -/
namespace Go.Proofs.YtpfcojnkflcnoaaGreatDoor
open Go.RowKit
set_option maxRecDepth 100000

theorem over_zero (f : Value) (W : World) : Calls Tryz.prog 201 #[.int .i64 0, f] W (WtEnd W (0, 4)) := by
  go_enter Tryz.func201, Tryz.ntmps201
  go_wp2_with fail
  go_ret2
  exact ⟨rfl, Below.refl _ _⟩
theorem tdiv_bd (x y M : Int) (h1 : -M ≤ x) (h2 : x ≤ M) : -M ≤ x.tdiv y ∧ x.tdiv y ≤ M := by
  have h := Int.natAbs_tdiv_le_natAbs x y
  omega
theorem tmod_bd (x y M : Int) (h1 : -M ≤ x) (h2 : x ≤ M) : -M ≤ x.tmod y ∧ x.tmod y ≤ M := by
  have h := Int.natAbs_tmod x y
  have h2 : x.natAbs % y.natAbs ≤ x.natAbs := Nat.mod_le _ _
  omega
def overI (n : Int) (r : Int × Nat) : Int × Nat := if n = 0 then (0, 4) else r
section
variable (p q : Nat) (W : World)
theorem does4a (x y : Int) (hy : y ≠ 0) (h1 : -32768 ≤ x) (h2 : x ≤ 32767) (_h3 : -32768 ≤ y) (_h4 : y ≤ 32767) (c0 : W.cell? ⟨p, 0, none⟩ = some (.int .i64 x)) (c1 : W.cell? ⟨q, 0, none⟩ = some (.int .i64 y)) : Calls Tryz.prog 202 #[.pointer (some ⟨p, 0, none⟩), .pointer (some ⟨q, 0, none⟩)] W (WtEnd W (signedI (x.tdiv y))) := by
  obtain ⟨m1, m2⟩ := tdiv_bd x y 32768 (by omega) (by omega)
  have hw : IntKind.i64.wrap (x.tdiv y) = x.tdiv y := IntWalk.i64_in _ (by omega)
  have d := beq_eq_false_iff_ne.2 hy
  go_enter Tryz.func202, Tryz.ntmps202
  go_wp2_with fail
  clear d
  refine (signed_any _ W).mono ?_
  rintro e w1 ⟨rfl, hb⟩
  go_wp2_with fail
  go_ret2
  exact ⟨rfl, hb⟩
theorem over4 (n : Int) (hn : n ≠ 0) (cap : Array Value) (r : Int × Nat) (hf : Calls Tryz.prog 202 cap W (WtEnd W r)) : Calls Tryz.prog 201 #[.int .i64 n, .func (.func 202) #[] cap] W (WtEnd W r) := by
  have HF := Lib.hid hf
  clear hf
  have d := beq_eq_false_iff_ne.2 hn
  clear hn
  go_enter Tryz.func201, Tryz.ntmps201
  go_wp2_with fail
  clear d
  refine (HF.out).mono ?_
  rintro e w1 ⟨rfl, hb⟩
  go_wp2_with fail
  go_ret2
  exact ⟨rfl, hb⟩
theorem does4 (x y : Int) (h1 : -32768 ≤ x) (h2 : x ≤ 32767) (h3 : -32768 ≤ y) (h4 : y ≤ 32767) (c0 : W.cell? ⟨p, 0, none⟩ = some (.int .i64 x)) (c1 : W.cell? ⟨q, 0, none⟩ = some (.int .i64 y)) : Calls Tryz.prog 200 #[.pointer (some ⟨q, 0, none⟩), .pointer (some ⟨p, 0, none⟩)] W (WtEnd W (overI y (signedI (x.tdiv y)))) := by
  by_cases hy : y = 0
  · subst hy
    have HE := Lib.hid (show overI 0 (signedI (x.tdiv 0)) = (0, 4) from if_pos rfl)
    go_enter Tryz.func200, Tryz.ntmps200
    go_wp2_with fail
    refine (over_zero _ W).mono ?_
    rintro e w1 ⟨rfl, hb⟩
    go_wp2_with fail
    go_ret2
    rw [HE.out]
    exact ⟨rfl, hb⟩
  · have HE := Lib.hid (show overI y (signedI (x.tdiv y)) = signedI (x.tdiv y) from if_neg hy)
    have HF := Lib.hid (does4a p q W x y hy h1 h2 h3 h4 c0 c1)
    go_enter Tryz.func200, Tryz.ntmps200
    go_wp2_with fail
    refine (over4 W y hy _ _ HF.out).mono ?_
    rintro e w1 ⟨rfl, hb⟩
    go_wp2_with fail
    go_ret2
    rw [HE.out]
    exact ⟨rfl, hb⟩
theorem does5a (x y : Int) (hy : y ≠ 0) (h1 : -32768 ≤ x) (h2 : x ≤ 32767) (_h3 : -32768 ≤ y) (_h4 : y ≤ 32767) (c0 : W.cell? ⟨p, 0, none⟩ = some (.int .i64 x)) (c1 : W.cell? ⟨q, 0, none⟩ = some (.int .i64 y)) : Calls Tryz.prog 204 #[.pointer (some ⟨p, 0, none⟩), .pointer (some ⟨q, 0, none⟩)] W (WtEnd W (signedI (x.tmod y))) := by
  obtain ⟨m1, m2⟩ := tmod_bd x y 32768 (by omega) (by omega)
  have hw : IntKind.i64.wrap (x.tmod y) = x.tmod y := IntWalk.i64_in _ (by omega)
  have d := beq_eq_false_iff_ne.2 hy
  go_enter Tryz.func204, Tryz.ntmps204
  go_wp2_with fail
  clear d
  refine (signed_any _ W).mono ?_
  rintro e w1 ⟨rfl, hb⟩
  go_wp2_with fail
  go_ret2
  exact ⟨rfl, hb⟩
theorem over5 (n : Int) (hn : n ≠ 0) (cap : Array Value) (r : Int × Nat) (hf : Calls Tryz.prog 204 cap W (WtEnd W r)) : Calls Tryz.prog 201 #[.int .i64 n, .func (.func 204) #[] cap] W (WtEnd W r) := by
  have HF := Lib.hid hf
  clear hf
  have d := beq_eq_false_iff_ne.2 hn
  clear hn
  go_enter Tryz.func201, Tryz.ntmps201
  go_wp2_with fail
  clear d
  refine (HF.out).mono ?_
  rintro e w1 ⟨rfl, hb⟩
  go_wp2_with fail
  go_ret2
  exact ⟨rfl, hb⟩
theorem does5 (x y : Int) (h1 : -32768 ≤ x) (h2 : x ≤ 32767) (h3 : -32768 ≤ y) (h4 : y ≤ 32767) (c0 : W.cell? ⟨p, 0, none⟩ = some (.int .i64 x)) (c1 : W.cell? ⟨q, 0, none⟩ = some (.int .i64 y)) : Calls Tryz.prog 203 #[.pointer (some ⟨q, 0, none⟩), .pointer (some ⟨p, 0, none⟩)] W (WtEnd W (overI y (signedI (x.tmod y)))) := by
  by_cases hy : y = 0
  · subst hy
    have HE := Lib.hid (show overI 0 (signedI (x.tmod 0)) = (0, 4) from if_pos rfl)
    go_enter Tryz.func203, Tryz.ntmps203
    go_wp2_with fail
    refine (over_zero _ W).mono ?_
    rintro e w1 ⟨rfl, hb⟩
    go_wp2_with fail
    go_ret2
    rw [HE.out]
    exact ⟨rfl, hb⟩
  · have HE := Lib.hid (show overI y (signedI (x.tmod y)) = signedI (x.tmod y) from if_neg hy)
    have HF := Lib.hid (does5a p q W x y hy h1 h2 h3 h4 c0 c1)
    go_enter Tryz.func203, Tryz.ntmps203
    go_wp2_with fail
    refine (over5 W y hy _ _ HF.out).mono ?_
    rintro e w1 ⟨rfl, hb⟩
    go_wp2_with fail
    go_ret2
    rw [HE.out]
    exact ⟨rfl, hb⟩
theorem does11a (x y : Int) (hy : y ≠ 0) (h1 : 0 ≤ x) (h2 : x ≤ 65535) (h3 : 0 ≤ y) (h4 : y ≤ 65535) (c0 : W.cell? ⟨p, 0, none⟩ = some (.int .i64 x)) (c1 : W.cell? ⟨q, 0, none⟩ = some (.int .i64 y)) : Calls Tryz.prog 212 #[.pointer (some ⟨p, 0, none⟩), .pointer (some ⟨q, 0, none⟩)] W (WtEnd W (bareI (x / y))) := by
  have hy1 : 1 ≤ y := by omega
  have m1 : 0 ≤ x / y := Int.ediv_nonneg h1 h3
  have m2 : x / y ≤ 65535 := by have := Int.ediv_le_self y h1; omega
  have d := beq_eq_false_iff_ne.2 hy
  go_enter Tryz.func212, Tryz.ntmps212
  go_wp2_with fail
  clear d
  refine (bare_any _ W).mono ?_
  rintro e w1 ⟨rfl, hb⟩
  go_wp2_with fail
  go_ret2
  exact ⟨rfl, hb⟩
theorem over11 (n : Int) (hn : n ≠ 0) (cap : Array Value) (r : Int × Nat) (hf : Calls Tryz.prog 212 cap W (WtEnd W r)) : Calls Tryz.prog 201 #[.int .i64 n, .func (.func 212) #[] cap] W (WtEnd W r) := by
  have HF := Lib.hid hf
  clear hf
  have d := beq_eq_false_iff_ne.2 hn
  clear hn
  go_enter Tryz.func201, Tryz.ntmps201
  go_wp2_with fail
  clear d
  refine (HF.out).mono ?_
  rintro e w1 ⟨rfl, hb⟩
  go_wp2_with fail
  go_ret2
  exact ⟨rfl, hb⟩
theorem does11 (x y : Int) (h1 : 0 ≤ x) (h2 : x ≤ 65535) (h3 : 0 ≤ y) (h4 : y ≤ 65535) (c0 : W.cell? ⟨p, 0, none⟩ = some (.int .i64 x)) (c1 : W.cell? ⟨q, 0, none⟩ = some (.int .i64 y)) : Calls Tryz.prog 211 #[.pointer (some ⟨q, 0, none⟩), .pointer (some ⟨p, 0, none⟩)] W (WtEnd W (overI y (bareI (x / y)))) := by
  by_cases hy : y = 0
  · subst hy
    have HE := Lib.hid (show overI 0 (bareI (x / 0)) = (0, 4) from if_pos rfl)
    go_enter Tryz.func211, Tryz.ntmps211
    go_wp2_with fail
    refine (over_zero _ W).mono ?_
    rintro e w1 ⟨rfl, hb⟩
    go_wp2_with fail
    go_ret2
    rw [HE.out]
    exact ⟨rfl, hb⟩
  · have HE := Lib.hid (show overI y (bareI (x / y)) = bareI (x / y) from if_neg hy)
    have HF := Lib.hid (does11a p q W x y hy h1 h2 h3 h4 c0 c1)
    go_enter Tryz.func211, Tryz.ntmps211
    go_wp2_with fail
    refine (over11 W y hy _ _ HF.out).mono ?_
    rintro e w1 ⟨rfl, hb⟩
    go_wp2_with fail
    go_ret2
    rw [HE.out]
    exact ⟨rfl, hb⟩
theorem does12a (x y : Int) (hy : y ≠ 0) (h1 : 0 ≤ x) (h2 : x ≤ 65535) (h3 : 0 ≤ y) (h4 : y ≤ 65535) (c0 : W.cell? ⟨p, 0, none⟩ = some (.int .i64 x)) (c1 : W.cell? ⟨q, 0, none⟩ = some (.int .i64 y)) : Calls Tryz.prog 214 #[.pointer (some ⟨p, 0, none⟩), .pointer (some ⟨q, 0, none⟩)] W (WtEnd W (bareI (x % y))) := by
  have hy1 : 1 ≤ y := by omega
  have m1 : 0 ≤ x % y := Int.emod_nonneg _ hy
  have m2 : x % y ≤ 65535 := by have := Int.emod_lt_of_pos x (show 0 < y by omega); omega
  have d := beq_eq_false_iff_ne.2 hy
  go_enter Tryz.func214, Tryz.ntmps214
  go_wp2_with fail
  clear d
  refine (bare_any _ W).mono ?_
  rintro e w1 ⟨rfl, hb⟩
  go_wp2_with fail
  go_ret2
  exact ⟨rfl, hb⟩
theorem over12 (n : Int) (hn : n ≠ 0) (cap : Array Value) (r : Int × Nat) (hf : Calls Tryz.prog 214 cap W (WtEnd W r)) : Calls Tryz.prog 201 #[.int .i64 n, .func (.func 214) #[] cap] W (WtEnd W r) := by
  have HF := Lib.hid hf
  clear hf
  have d := beq_eq_false_iff_ne.2 hn
  clear hn
  go_enter Tryz.func201, Tryz.ntmps201
  go_wp2_with fail
  clear d
  refine (HF.out).mono ?_
  rintro e w1 ⟨rfl, hb⟩
  go_wp2_with fail
  go_ret2
  exact ⟨rfl, hb⟩
theorem does12 (x y : Int) (h1 : 0 ≤ x) (h2 : x ≤ 65535) (h3 : 0 ≤ y) (h4 : y ≤ 65535) (c0 : W.cell? ⟨p, 0, none⟩ = some (.int .i64 x)) (c1 : W.cell? ⟨q, 0, none⟩ = some (.int .i64 y)) : Calls Tryz.prog 213 #[.pointer (some ⟨q, 0, none⟩), .pointer (some ⟨p, 0, none⟩)] W (WtEnd W (overI y (bareI (x % y)))) := by
  by_cases hy : y = 0
  · subst hy
    have HE := Lib.hid (show overI 0 (bareI (x % 0)) = (0, 4) from if_pos rfl)
    go_enter Tryz.func213, Tryz.ntmps213
    go_wp2_with fail
    refine (over_zero _ W).mono ?_
    rintro e w1 ⟨rfl, hb⟩
    go_wp2_with fail
    go_ret2
    rw [HE.out]
    exact ⟨rfl, hb⟩
  · have HE := Lib.hid (show overI y (bareI (x % y)) = bareI (x % y) from if_neg hy)
    have HF := Lib.hid (does12a p q W x y hy h1 h2 h3 h4 c0 c1)
    go_enter Tryz.func213, Tryz.ntmps213
    go_wp2_with fail
    refine (over12 W y hy _ _ HF.out).mono ?_
    rintro e w1 ⟨rfl, hb⟩
    go_wp2_with fail
    go_ret2
    rw [HE.out]
    exact ⟨rfl, hb⟩
theorem does6 (x : Int) (h1 : -32768 ≤ x) (h2 : x ≤ 32767) (c0 : W.cell? ⟨p, 0, none⟩ = some (.int .i64 x)) : Calls Tryz.prog 205 #[.pointer (some ⟨p, 0, none⟩)] W (WtEnd W (signedI (-x))) := by
  go_enter Tryz.func205, Tryz.ntmps205
  go_wp2_with fail
  refine (signed_any _ W).mono ?_
  rintro e w1 ⟨rfl, hb⟩
  go_wp2_with fail
  go_ret2
  exact ⟨rfl, hb⟩
theorem does7 (x : Int) (h1 : -32768 ≤ x) (h2 : x ≤ 32767) (c0 : W.cell? ⟨p, 0, none⟩ = some (.int .i64 x)) : Calls Tryz.prog 206 #[.pointer (some ⟨p, 0, none⟩)] W (WtEnd W (signedI (max x (-x)))) := by
  by_cases h : x < -x
  · have HM := Lib.hid (show max x (-x) = -x by omega)
    rw [HM.out]
    go_enter Tryz.func206, Tryz.ntmps206
    go_wp2_with fail
    refine (signed_any _ W).mono ?_
    rintro e w1 ⟨rfl, hb⟩
    go_wp2_with fail
    go_ret2
    exact ⟨rfl, hb⟩
  · have hn : -x ≤ x := by omega
    have HM := Lib.hid (show max x (-x) = x by omega)
    rw [HM.out]
    go_enter Tryz.func206, Tryz.ntmps206
    go_wp2_with fail
    refine (signed_any _ W).mono ?_
    rintro e w1 ⟨rfl, hb⟩
    go_wp2_with fail
    go_ret2
    exact ⟨rfl, hb⟩
theorem does23 (a : Nat) (_h1 : a < 65536) (c0 : W.cell? ⟨p, 0, none⟩ = some (.int .u16 a)) : Calls Tryz.prog 228 #[.pointer (some ⟨p, 0, none⟩)] W (WtEnd W (isI ((a : Int) == 0))) := by
  go_enter Tryz.func228, Tryz.ntmps228
  go_wp2_with fail
  refine (is_any _ W).mono ?_
  rintro e w1 ⟨rfl, hb⟩
  go_wp2_with fail
  go_ret2
  exact ⟨rfl, hb⟩
end
end Go.Proofs.YtpfcojnkflcnoaaGreatDoor
/- What ops do with words: sets of a row, is it an element. No condition beyond what each theorem says. -/
namespace Go.Proofs.YtpfcojnkflcnoaaGreatDoor
open Go.RowKit
set_option maxRecDepth 100000

def shB (i : Nat) : Int := IntKind.u16.wrap ((2 : Int) ^ i)
/-- The set of k numbers from a on. -/
def rowS (a : Nat) : Nat → Int
  | 0 => 0
  | k + 1 => bits .or .u16 (rowS a k) (shB (a + k))
def rowI (a b : Nat) : Int × Nat := if 15 < a ∨ 15 < b then (0, 2) else (rowS a (b + 1 - a), 0)
theorem row_bad1 (a b : Nat) (h : 15 < a) (W : World) : Calls Tryz.prog 237 #[.int .u16 a, .int .u16 b] W (WtEnd W (0, 2)) := by
  have hI : (15 : Int) < a := by omega
  go_enter Tryz.func237, Tryz.ntmps237
  go_wp2_with fail
  go_ret2
  exact ⟨rfl, Below.refl _ _⟩
theorem row_bad2 (a b : Nat) (h1 : a ≤ 15) (h : 15 < b) (W : World) : Calls Tryz.prog 237 #[.int .u16 a, .int .u16 b] W (WtEnd W (0, 2)) := by
  have hI : (15 : Int) < b := by omega
  have hJ : decide ((15 : Int) < a) = false := decide_eq_false (by omega)
  go_enter Tryz.func237, Tryz.ntmps237
  go_wp2_with fail
  go_ret2
  exact ⟨rfl, Below.refl _ _⟩
theorem row_good (a b : Nat) (h1 : a ≤ 15) (h : b ≤ 15) (W : World) : Calls Tryz.prog 237 #[.int .u16 a, .int .u16 b] W (WtEnd W (rowS a (b + 1 - a), 0)) := by
  have hI : decide ((15 : Int) < b) = false := decide_eq_false (by omega)
  have hJ : decide ((15 : Int) < a) = false := decide_eq_false (by omega)
  go_enter Tryz.func237, Tryz.ntmps237
  go_wp2_with fail
  clear hI hJ
  go_loopg [6, 7] (b + 1 - a) (fun g s i wr => ∃ k : Nat, k + g = b + 1 - a ∧ i = .int .u16 ((a + k : Nat) : Int) ∧ s = .int .u16 (rowS a k) ∧ wr = W)
  case atStart => exact ⟨0, by omega, rfl, rfl, rfl⟩
  case round =>
    obtain ⟨k, hk, rfl, rfl, rfl⟩ := hrel
    by_cases hlt : a + k ≤ b
    · have hltI : ((a + k : Nat) : Int) ≤ b := by omega
      have HS := Lib.hid (show rowS a (k + 1) = bits .or .u16 (rowS a k) (shB (a + k)) from rfl)
      have hc16 : a + k ≤ 15 := by omega
      generalize hac : a + k = c at *
      have HC := Lib.hid hac
      clear hac
      have hc : (c : Int) ≤ 15 := by omega
      have hc0 : (0 : Int) ≤ c := by omega
      go_wp2_with fail
      go_roundg (gk - 1)
      case measure => have := HC.out; omega
      case rel => exact ⟨k + 1, by have := HC.out; omega, by rw [show a + (k + 1) = c + 1 by have := HC.out; omega]; rfl, by rw [HS.out]; rfl, rfl⟩
    · have hge : ¬ ((a + k : Nat) : Int) ≤ b := by omega
      have HT := Lib.hid (show rowS a (b + 1 - a) = rowS a k ∨ b + 1 - a < k by
        by_cases h : k ≤ b + 1 - a
        · left; congr 1; omega
        · right; omega)
      go_wp2_with fail
      go_ret2
      rcases HT.out with h | h
      · rw [h]; exact ⟨rfl, Below.refl _ _⟩
      · omega
theorem setRow_any (a b : Nat) (W : World) : Calls Tryz.prog 237 #[.int .u16 a, .int .u16 b] W (WtEnd W (rowI a b)) := by
  unfold rowI
  by_cases h1 : 15 < a
  · rw [if_pos (.inl h1)]; exact row_bad1 a b h1 W
  · by_cases h2 : 15 < b
    · rw [if_pos (.inr h2)]; exact row_bad2 a b (by omega) h2 W
    · rw [if_neg (by omega)]; exact row_good a b (by omega) (by omega) W
section
variable (p q : Nat) (W : World)
theorem does30 (a : Nat) (c0 : W.cell? ⟨p, 0, none⟩ = some (.int .u16 a)) : Calls Tryz.prog 236 #[.pointer (some ⟨p, 0, none⟩)] W (WtEnd W (rowI a a)) := by
  go_enter Tryz.func236, Tryz.ntmps236
  go_wp2_with fail
  refine (setRow_any a a W).mono ?_
  rintro e w1 ⟨rfl, hb⟩
  go_wp2_with fail
  go_ret2
  exact ⟨rfl, hb⟩
theorem does31 (a b : Nat) (c0 : W.cell? ⟨p, 0, none⟩ = some (.int .u16 a)) (c1 : W.cell? ⟨q, 0, none⟩ = some (.int .u16 b)) : Calls Tryz.prog 238 #[.pointer (some ⟨p, 0, none⟩), .pointer (some ⟨q, 0, none⟩)] W (WtEnd W (rowI a b)) := by
  go_enter Tryz.func238, Tryz.ntmps238
  go_wp2_with fail
  refine (setRow_any a b W).mono ?_
  rintro e w1 ⟨rfl, hb⟩
  go_wp2_with fail
  go_ret2
  exact ⟨rfl, hb⟩
/-- Is a an element of b? -/
def inI (a b : Nat) : Bool := decide (a < 16) && (bits .and .u16 ((b : Int) / 2 ^ a) 1 == 1)
theorem does28 (a b : Nat) (h1 : a < 65536) (_h2 : b < 65536) (c0 : W.cell? ⟨p, 0, none⟩ = some (.int .u16 a)) (c1 : W.cell? ⟨q, 0, none⟩ = some (.int .u16 b)) : Calls Tryz.prog 234 #[.pointer (some ⟨p, 0, none⟩), .pointer (some ⟨q, 0, none⟩)] W (WtEnd W (isI (inI a b))) := by
  by_cases h : a < 16
  · have HE := Lib.hid (show inI a b = (bits .and .u16 ((b : Int) / 2 ^ a) 1 == 1) by unfold inI; rw [decide_eq_true h]; rfl)
    have hI : (a : Int) < 16 := by omega
    go_enter Tryz.func234, Tryz.ntmps234
    go_wp2_with fail
    rw [← HE.out]
    refine (is_any _ W).mono ?_
    rintro e w1 ⟨rfl, hb⟩
    go_wp2_with fail
    go_ret2
    exact ⟨rfl, hb⟩
  · have HE := Lib.hid (show inI a b = false by unfold inI; rw [decide_eq_false h]; rfl)
    have hI : decide ((a : Int) < 16) = false := decide_eq_false (by omega)
    go_enter Tryz.func234, Tryz.ntmps234
    go_wp2_with fail
    rw [← HE.out]
    refine (is_any _ W).mono ?_
    rintro e w1 ⟨rfl, hb⟩
    go_wp2_with fail
    go_ret2
    exact ⟨rfl, hb⟩
end
end Go.Proofs.YtpfcojnkflcnoaaGreatDoor
/- A region that draws its order: a call that leaves the world alone and answers one value, whatever the world, is taken first, as a load is. No condition beyond what each theorem says. -/
namespace Go.Proofs.YtpfcojnkflcnoaaGreatDoor
open Go.RowKit

section
variable {P : Program} {ops : Array Oper} {Q : Exit → Act → World → Prop} {md : Region.Mode} {S : World → Prop}
/-- In state a, in every world that meets S, the call o answers v and leaves the world as it is. -/
def Asks (P : Program) (ops : Array Oper) (S : World → Prop) (o : Oper) (v : Value) (a : Act) : Prop :=
  Region.wanted o (yielded ops a.tmps) = true ∧ ∃ f args, (∀ w, S w → (execOp a.eval o).run P w = .ok (.enter f args) w) ∧ ∀ w, S w → Calls P f args w (fun e w' => e = .returned v ∧ w = w')
theorem Asks.op {i : Nat} {o : Oper} {v : Value} {a : Act} (hi : ops[i]? = some o) (hy : Asks P ops S o v a) {K : Act → World → Prop} {w : World} (hS : S w) (h : K (a.put o.dst v) w) : wpOp P ops Q i K a w := by
  obtain ⟨hw, f, args, hr, hc⟩ := hy
  refine wpOp_step hi fun K' hK => ?_
  rw [if_pos hw]
  unfold Oper.wp
  rw [hr w hS]
  refine (hc w hS).mono ?_
  rintro e w' ⟨rfl, rfl⟩
  exact hK _ _ h
theorem Asks.same {o : Oper} {v : Value} {a a' : Act} (hy : Asks P ops S o v a) (he : execOp a'.eval o = execOp a.eval o) (hw : Region.wanted o (yielded ops a'.tmps) = Region.wanted o (yielded ops a.tmps)) : Asks P ops S o v a' := by
  unfold Asks at *
  rw [he, hw]
  exact hy
/-- What is apart from the call does the same with its answer laid already, and leaves it to be asked. -/
theorem Asks.apart {j : Nat} {oi oj : Oper} {v : Value} (hj : ops[j]? = some oj) (hap : oi.apart ops oj = true) (hsi : ∀ cs b, oi.op ≠ .select cs b) (hsj : ∀ cs b, oj.op ≠ .select cs b)
    (hQ : ∀ c a w, Q (.panic c) (a.put oi.dst v) w → Q (.panic c) a w) {K : Act → World → Prop} {a : Act} {w : World} (hy : Asks P ops S oi v a) (h : wpOp P ops Q j K (a.put oi.dst v) w) :
    wpOp P ops Q j (fun a' w' => Asks P ops S oi v a' ∧ K (a'.put oi.dst v) w') a w := by
  obtain ⟨h1, h2, h3⟩ := Oper.apart_spec hap
  have keep : ∀ (a : Act), Asks P ops S oi v a → ∀ u, Asks P ops S oi v (a.put oj.dst u) := fun a hy u => hy.same (execOp_put oi hsi a oj.dst u h3) (wanted_put oi a oj.dst u h3)
  unfold wpOp at h ⊢
  simp only [hj] at h ⊢
  rw [wanted_put oj a oi.dst v h1] at h
  by_cases hw : Region.wanted oj (yielded ops a.tmps) = true
  · rw [if_pos hw] at h ⊢
    refine h.imp (fun h => ?_) (fun h => ⟨?_, h.2⟩)
    · unfold Oper.wp at h ⊢
      rw [execOp_put oj hsj a oi.dst v h1] at h
      clear hw
      generalize (execOp a.eval oj).run P w = r at *
      cases r with
      | ok n w' =>
        cases n <;> simp only [Oper.upon] at h ⊢
        case value u => rw [Act.put_comm a v u h2] at h; exact ⟨keep a hy u, h⟩
        case skip => rw [Act.put_comm a v undef h2] at h; exact ⟨keep a hy _, h⟩
        case defer d => rw [Act.put_defers, Act.put_comm _ v undef h2] at h; exact ⟨keep { a with defers := d :: a.defers } (hy.same rfl rfl) _, h⟩
        case enter f args =>
          refine h.mono fun e w'' he => ?_
          cases e with
          | returned u => simp only at he ⊢; rw [Act.put_comm a v u h2] at he; exact ⟨keep a hy u, he⟩
          | panicked c => exact hQ _ _ _ he
          | outgrown => exact he
        case row row args => exact Rows.mono h fun u w'' he => by rw [Act.put_comm a v u h2] at he; exact ⟨keep a hy u, he⟩
      | halt x w' => cases x <;> simp only [Oper.upon] at h ⊢; exact hQ _ _ _ h
    · have := h.1
      unfold Oper.asks at this ⊢
      rwa [execOp_put oj hsj a oi.dst v h1] at this
  · rw [if_neg hw] at h ⊢
    rw [Act.put_comm a v undef h2] at h
    exact ⟨keep a hy _, h⟩
/-- It may be taken first, where all that has not come up waits for it or is apart from it. -/
theorem asks_first {i : Nat} {oi : Oper} {v : Value} (hi : ops[i]? = some oi) (hsel : ∀ (j : Nat) (o : Oper) cs b, ops[j]? = some o → o.op ≠ .select cs b) (hQ : ∀ c a w, Q (.panic c) (a.put oi.dst v) w → Q (.panic c) a w) :
    ∀ (fuel : Nat) (listed : Array Bool) (a : Act) (w : World), (∀ j oj, ops[j]? = some oj → j ≠ i → listed.getD j true = false → (∀ e ∈ oj.after, Region.binds md e = true → e.on ≠ i) → oi.apart ops oj = true) →
      i ∈ Region.ready md ops listed → Asks P ops S oi v a → S w → wpAnyH P md ops Q S fuel (listed.setIfInBounds i true) (a.put oi.dst v) w → wpAnyH P md ops Q S (fuel + 1) listed a w
  | fuel, listed, a, w, hfree, hr, hy, hS, H => by
    refine ⟨fun h => (by rw [h] at hr; cases hr), fun j hj => ?_⟩
    by_cases hji : j = i
    · subst hji; exact hy.op hi hS ⟨hS, H⟩
    have hj' := ready_mono hj hji
    cases fuel with
    | zero => rw [H.1] at hj'; cases hj'
    | succ fuel =>
      obtain ⟨hjun, oj, hoj, hall⟩ := mem_ready.1 hj
      have hnot : ∀ e ∈ oj.after, Region.binds md e = true → e.on ≠ i := fun e he hb heq => by
        have h1 := hall e he hb
        have h0 := (mem_ready.1 hr).1
        rw [heq] at h1
        rw [Array.getD_eq_getD_getElem?] at h0 h1
        cases hl : listed[i]? with
        | none => rw [hl] at h1; cases h1
        | some b => rw [hl] at h0 h1; simp only [Option.getD_some] at h0 h1; rw [h0] at h1; cases h1
      have h2 := Asks.apart hoj (hfree j oj hoj hji hjun hnot) (fun cs b => hsel i oi cs b hi) (fun cs b => hsel j oj cs b hoj) hQ hy (H.2 j hj')
      refine wpOp_mono (fun a' w' h3 => ⟨h3.2.1, asks_first hi hsel hQ fuel (listed.setIfInBounds j true) a' w' (fun k ok hk hki hun hno => hfree k ok hk hki ?_ hno) (ready_mono hr (Ne.symm hji)) h3.1 h3.2.1 ?_⟩) h2
      · by_cases hjk : j = k
        · subst hjk; exact hjun
        · rwa [getD_set_ne true hjk] at hun
      · rw [Array.setIfInBounds_comm _ _ hji]; exact h3.2.2
theorem asks_take {i : Nat} {oi : Oper} {v : Value} {fuel : Nat} {listed : Array Bool} {a : Act} {w : World} (hi : ops[i]? = some oi)
    (hs : Region.noSelect ops = true) (hf : Region.free md ops listed i = true) (hr : (Region.ready md ops listed).contains i = true)
    (hQ : ∀ c a w, Q (.panic c) (a.put oi.dst v) w → Q (.panic c) a w) (hy : Asks P ops S oi v a) (hS : S w)
    (h : wpAnyH P md ops Q S fuel (listed.setIfInBounds i true) (a.put oi.dst v) w) : wpAnyH P md ops Q S (fuel + 1) listed a w :=
  asks_first hi (Region.noSelect_spec hs) hQ fuel listed a w (Region.free_spec hi hf) (by simpa using hr) hy hS h
end
end Go.Proofs.YtpfcojnkflcnoaaGreatDoor
