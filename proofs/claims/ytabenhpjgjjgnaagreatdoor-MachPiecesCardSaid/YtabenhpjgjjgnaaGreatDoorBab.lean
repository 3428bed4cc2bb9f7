/- A map from small numbers to functions, that the call itself makes. What ops do with words. What ops do with words. What ops do with words. Condition: what lies in memory can lie there; what each theorem says. -/
import Derived.Test.YtabenhpjgjjgnaaGreatDoorBaa
import Derived.Deep.DeepCutAuto
import Derived.IntWalk
import Derived.Deep.LoopGhost
import Derived.WalkLawsBesides
import Derived.Laws.ShiftsVarLaws
/- A map from small numbers to functions, that the call itself makes. -/
namespace Go.Proofs.YtabenhpjgjjgnaaGreatDoor
open Go.RowKit
set_option maxRecDepth 100000
def fmKey (n : Nat) : Value := .int .u8 (n : Int)
def fmEs (l : List (Nat × Value)) : Array MapEntry := (l.zipIdx.map fun p => ⟨fmKey p.1.1, p.1.2, p.2⟩).toArray
def FM (w : World) (r : Nat) (l : List (Nat × Value)) : Prop := w.heap[r]? = some (.map (fmEs l) l.length)
def putFM (w : World) (r : Nat) (l : List (Nat × Value)) : World := putObj w r (.map (fmEs l) l.length)
theorem fmEs_snoc (l : List (Nat × Value)) (n : Nat) (v : Value) : fmEs (l ++ [(n, v)]) = (fmEs l).push ⟨fmKey n, v, l.length⟩ := by
 unfold fmEs; simp [List.zipIdx_append]
theorem FM.lt {w : World} {r : Nat} {l : List (Nat × Value)} (h : FM w r l) : r < w.heap.size := by
 rcases Nat.lt_or_ge r w.heap.size with h' | h'
 ·exact h'
 ·have h2 : w.heap[r]? = _ := h
  rw [Array.getElem?_eq_none h'] at h2; cases h2
theorem FM.new (w : World) : FM (w.alloc (.map #[] 0)) w.heap.size [] := heap_alloc_new w _
theorem FM.later {w w' : World} {r : Nat} {l : List (Nat × Value)} (h : FM w r l) (hb : Below w.heap.size w w') : FM w' r l := (hb.block r h.lt).trans h
theorem FM.put {w : World} {r : Nat} {l : List (Nat × Value)} (h : FM w r l) (l' : List (Nat × Value)) : FM (putFM w r l') r l' := putObj_at h.lt
section
variable {P : Program} {mty kt et : TypeId}
theorem fmKey_inj (a b : Nat) (h : fmKey a = fmKey b) : a = b := by unfold fmKey at h; injection h with _ h; omega
theorem fm_find (l : List (Nat × Value)) (x : Nat) :
 (x ∉ l.map (·.1) ∧ Instr.findNow (.int .u8) (fmKey x) (fmEs l).toList 0 = some none) ∨ (∃ v j, (x, v) ∈ l ∧ Instr.findNow (.int .u8) (fmKey x) (fmEs l).toList 0 = some (some (j, v))) := by
 rcases MapKept.findNow_spec (d := .int .u8) (k := fmKey x) rfl (fmEs l).toList 0 (by
  intro e he
  simp only [fmEs, List.mem_map] at he
  obtain ⟨p, _, rfl⟩ := he
  exact rfl) with ⟨h1, h2⟩ | ⟨j, e, h1, h2, h3⟩
 ·refine .inl ⟨fun hx => ?_, h1⟩
  obtain ⟨y, hy, rfl⟩ := List.mem_map.1 hx
  obtain ⟨i, hi, rfl⟩ := List.getElem_of_mem hy
  refine h2 ⟨fmKey l[i].1, l[i].2, i⟩ ?_ rfl
  simp only [fmEs, List.mem_map]
  exact ⟨(l[i], i), by rw [List.mem_zipIdx_iff_getElem?]; simp [hi], rfl⟩
 ·have he : e ∈ (fmEs l).toList := List.mem_of_getElem? h2
  simp only [fmEs, List.mem_map] at he
  obtain ⟨p, hp, rfl⟩ := he
  have hm := List.mem_of_getElem? (List.mem_zipIdx_iff_getElem?.1 hp)
  refine .inr ⟨p.1.2, 0 + j, ?_, h1⟩
  have := fmKey_inj _ _ h3
  rw [← this]
  exact hm
theorem fm_put (hm : P.underlying mty = some (.map kt et)) (hd : P.underlying kt = some (.int .u8)) (w : World) (r : Nat) (l : List (Nat × Value)) (h : FM w r l) (x : Nat) (v : Value) (hx : x ∉ l.map (·.1)) :
 (Instr.mapUpdate mty (.map (some r)) (.int .u8 (x : Int)) v).run P w = .ok () (putFM w r (l ++ [(x, v)])) := by
 rcases fm_find l x with ⟨_, hf⟩ | ⟨v', j, hx2, _⟩
 ·show (Instr.mapUpdate mty (.map (some r)) (fmKey x) v).run P w = _
  simp [Instr.mapUpdate, run_underlying hm, MapKept.run_getObj_map h, MapKept.run_checkKey (k := fmKey x) hd rfl, MapKept.run_findKey hd hf, MapKept.run_setObj_map _ h, Result.andThen, fmEs_snoc, putFM, putObj]
 ·exact absurd (List.mem_map.2 ⟨_, hx2, rfl⟩) hx
theorem fm_uniq {l : List (Nat × Value)} (hn : (l.map (·.1)).Nodup) {x : Nat} {u v : Value} (h1 : (x, u) ∈ l) (h2 : (x, v) ∈ l) : u = v := by
 induction l with
 | nil => cases h1
 | cons p l ih =>
   simp only [List.map_cons, List.nodup_cons] at hn
   rcases List.mem_cons.1 h1 with e1 | e1
   ·rcases List.mem_cons.1 h2 with e2 | e2
    ·rw [← e2] at e1; exact (Prod.mk.inj e1).2
    ·exact absurd (List.mem_map.2 ⟨_, e2, by rw [← e1]⟩) hn.1
   ·rcases List.mem_cons.1 h2 with e2 | e2
    ·exact absurd (List.mem_map.2 ⟨_, e1, by rw [← e2]⟩) hn.1
    ·exact ih hn.2 e1 e2
theorem fm_look (hm : P.underlying mty = some (.map kt et)) (hd : P.underlying kt = some (.int .u8)) (w : World) (r : Nat) (l : List (Nat × Value)) (h : FM w r l) (hn : (l.map (·.1)).Nodup) (x : Nat) (v : Value) (hx : (x, v) ∈ l) :
 (Instr.lookup mty (.map (some r)) (.int .u8 (x : Int)) false).run P w = .ok v w ∧ (Instr.lookup mty (.map (some r)) (.int .u8 (x : Int)) true).run P w = .ok (.tuple #[v, .bool true]) w := by
 rcases fm_find l x with ⟨hx2, _⟩ | ⟨v', j, hx2, hf⟩
 ·exact absurd (List.mem_map.2 ⟨_, hx, rfl⟩) hx2
 ·have e := fm_uniq hn hx hx2
  subst e
  constructor
  ·show (Instr.lookup mty (.map (some r)) (fmKey x) false).run P w = _
   simp [Instr.lookup, run_underlying hm, MapKept.run_getObj_map h, MapKept.run_checkKey (k := fmKey x) hd rfl, MapKept.run_findKey hd hf, Result.andThen]
  ·show (Instr.lookup mty (.map (some r)) (fmKey x) true).run P w = _
   simp [Instr.lookup, run_underlying hm, MapKept.run_getObj_map h, MapKept.run_checkKey (k := fmKey x) hd rfl, MapKept.run_findKey hd hf, Result.andThen]
end
end Go.Proofs.YtabenhpjgjjgnaaGreatDoor
/- What ops do with words. -/
namespace Go.Proofs.YtabenhpjgjjgnaaGreatDoor
open Go.RowKit
set_option maxRecDepth 100000
def sg (a : Nat) : Int := if a < 32768 then (a : Int) else (a : Int) - 65536
theorem sg_le (a : Nat) (h : a < 65536) : -32768 ≤ sg a ∧ sg a ≤ 32767 := by unfold sg; split <;> omega
theorem int_any (a : Nat) (h : a < 65536) (W : World) : Calls Tryz.prog 214 #[.int .u16 a] W fun e w' => e = .returned (.int .i64 (sg a)) ∧ W = w' := by
 have hw : IntKind.i16.wrap (a : Int) = sg a := by
  unfold sg
  split
  ·exact IntWalk.i16_in _ (by omega)
  ·have e : (a : Int) % (2 ^ IntKind.i16.bits : Int) = a := by show (a : Int) % 65536 = a; omega
   unfold IntKind.wrap
   rw [e]
   show (if (true && decide ((a : Int) ≥ 32768)) = true then (a : Int) - 65536 else (a : Int)) = _
   rw [if_pos (by simp; omega)]
 have hs := sg_le a h
 have hw2 : IntKind.i64.wrap (sg a) = sg a := IntWalk.i64_in _ (by omega)
 go_enter Tryz.func214, Tryz.ntmps214
 go_wp2_with fail
 go_ret
 first | rfl | exact ⟨rfl, rfl⟩ | exact ⟨by rw [hw], rfl⟩
def WtEnd (W : World) (r : Int × Nat) (e : Ending) (w' : World) : Prop := e = .returned (.tuple #[.int .u16 r.1, .int .u8 (r.2 : Nat)]) ∧ Below W.heap.size W w'
def fitsI (n lo hi : Int) : Int × Nat := if n < lo ∨ hi < n then (0, 1) else (n % 65536, 0)
theorem fits_any (n lo hi : Int) (W : World) : Calls Tryz.prog 323 #[.int .i64 n, .int .i64 lo, .int .i64 hi] W (WtEnd W (fitsI n lo hi)) := by
 unfold fitsI
 by_cases h1 : n < lo
 ·rw [if_pos (.inl h1)]
  go_enter Tryz.func323, Tryz.ntmps323
  go_wp2_with fail
  go_ret2
  exact ⟨rfl, Below.refl _ _⟩
 ·have d1 := decide_eq_false h1
  by_cases h2 : hi < n
  ·rw [if_pos (.inr h2)]
   clear h1
   go_enter Tryz.func323, Tryz.ntmps323
   go_wp2_with fail
   go_ret2
   exact ⟨rfl, Below.refl _ _⟩
  ·have d2 := decide_eq_false h2
   rw [if_neg (by omega)]
   clear h1 h2
   have hw := IntKind.wrap_u16 n
   go_enter Tryz.func323, Tryz.ntmps323
   go_wp2_with fail
   go_ret2
   exact ⟨rfl, Below.refl _ _⟩
def signedI (n : Int) : Int × Nat := fitsI n (-32768) 32767
def bareI (n : Int) : Int × Nat := fitsI n 0 65535
theorem signed_any (n : Int) (W : World) : Calls Tryz.prog 256 #[.int .i64 n] W (WtEnd W (signedI n)) := by
 have HE := Lib.hid (show signedI n = fitsI n (-32768) 32767 from rfl)
 go_enter Tryz.func256, Tryz.ntmps256
 go_wp2_with fail
 refine (fits_any n _ _ W).mono ?_
 rintro e w1 ⟨rfl, hb⟩
 rw [← HE.out]
 go_wp2_with fail
 go_ret2
 exact ⟨rfl, hb⟩
theorem bare_any (n : Int) (W : World) : Calls Tryz.prog 267 #[.int .i64 n] W (WtEnd W (bareI n)) := by
 have HE := Lib.hid (show bareI n = fitsI n 0 65535 from rfl)
 go_enter Tryz.func267, Tryz.ntmps267
 go_wp2_with fail
 refine (fits_any n _ _ W).mono ?_
 rintro e w1 ⟨rfl, hb⟩
 rw [← HE.out]
 go_wp2_with fail
 go_ret2
 exact ⟨rfl, hb⟩
def isI (b : Bool) : Int × Nat := (if b then 1 else 0, 0)
theorem is_any (b : Bool) (W : World) : Calls Tryz.prog 275 #[.bool b] W (WtEnd W (isI b)) := by
 unfold isI
 cases b
 all_goals
  go_enter Tryz.func275, Tryz.ntmps275
  go_wp2_with fail
  go_ret2
  exact ⟨rfl, Below.refl _ _⟩
theorem plain_any (n : Int) (W : World) : Calls Tryz.prog 289 #[.int .u16 n] W (WtEnd W (n, 0)) := by
 go_enter Tryz.func289, Tryz.ntmps289
 go_wp2_with fail
 go_ret2
 exact ⟨rfl, Below.refl _ _⟩
def asksB (how : Nat) (a b : Int) : Bool := match how with
 | 0 => decide (a < b)
 | 1 => decide (a ≤ b)
 | 2 => decide (b < a)
 | _ => decide (b ≤ a)
theorem asks_i64 (how : Nat) (hh : how < 4) (a b : Int) (W : World) : Calls Tryz.prog 278 #[.int .u8 how, .int .i64 a, .int .i64 b] W (WtEnd W (isI (asksB how a b))) := by
 have i0 := fun (x0 x1 x2 x3 : Bool) (w : World) => (show (Instr.index 301 (.agg #[.bool x0, .bool x1, .bool x2, .bool x3]) (.int .u8 0)).run Tryz.prog w = .ok (.bool x0) w by kernel_rfl)
 have i1 := fun (x0 x1 x2 x3 : Bool) (w : World) => (show (Instr.index 301 (.agg #[.bool x0, .bool x1, .bool x2, .bool x3]) (.int .u8 1)).run Tryz.prog w = .ok (.bool x1) w by kernel_rfl)
 have i2 := fun (x0 x1 x2 x3 : Bool) (w : World) => (show (Instr.index 301 (.agg #[.bool x0, .bool x1, .bool x2, .bool x3]) (.int .u8 2)).run Tryz.prog w = .ok (.bool x2) w by kernel_rfl)
 have i3 := fun (x0 x1 x2 x3 : Bool) (w : World) => (show (Instr.index 301 (.agg #[.bool x0, .bool x1, .bool x2, .bool x3]) (.int .u8 3)).run Tryz.prog w = .ok (.bool x3) w by kernel_rfl)
 have h4 : how = 0 ∨ how = 1 ∨ how = 2 ∨ how = 3 := by omega
 clear hh
 rcases h4 with rfl | rfl | rfl | rfl
 all_goals
  unfold asksB
  go_enter Tryz.func278, Tryz.ntmps278
  go_wp2_with fail
  refine (is_any _ W).mono ?_
  rintro e w1 ⟨rfl, hb⟩
  go_wp2_with fail
  go_ret2
  exact ⟨rfl, hb⟩
theorem asks_u16 (how : Nat) (hh : how < 4) (a b : Int) (W : World) : Calls Tryz.prog 283 #[.int .u8 how, .int .u16 a, .int .u16 b] W (WtEnd W (isI (asksB how a b))) := by
 have i0 := fun (x0 x1 x2 x3 : Bool) (w : World) => (show (Instr.index 301 (.agg #[.bool x0, .bool x1, .bool x2, .bool x3]) (.int .u8 0)).run Tryz.prog w = .ok (.bool x0) w by kernel_rfl)
 have i1 := fun (x0 x1 x2 x3 : Bool) (w : World) => (show (Instr.index 301 (.agg #[.bool x0, .bool x1, .bool x2, .bool x3]) (.int .u8 1)).run Tryz.prog w = .ok (.bool x1) w by kernel_rfl)
 have i2 := fun (x0 x1 x2 x3 : Bool) (w : World) => (show (Instr.index 301 (.agg #[.bool x0, .bool x1, .bool x2, .bool x3]) (.int .u8 2)).run Tryz.prog w = .ok (.bool x2) w by kernel_rfl)
 have i3 := fun (x0 x1 x2 x3 : Bool) (w : World) => (show (Instr.index 301 (.agg #[.bool x0, .bool x1, .bool x2, .bool x3]) (.int .u8 3)).run Tryz.prog w = .ok (.bool x3) w by kernel_rfl)
 have h4 : how = 0 ∨ how = 1 ∨ how = 2 ∨ how = 3 := by omega
 clear hh
 rcases h4 with rfl | rfl | rfl | rfl
 all_goals
  unfold asksB
  go_enter Tryz.func283, Tryz.ntmps283
  go_wp2_with fail
  refine (is_any _ W).mono ?_
  rintro e w1 ⟨rfl, hb⟩
  go_wp2_with fail
  go_ret2
  exact ⟨rfl, hb⟩
theorem mul_bd (x y M : Int) (h1 : -M ≤ x) (h2 : x ≤ M) (h3 : -M ≤ y) (h4 : y ≤ M) : -(M * M) ≤ x * y ∧ x * y ≤ M * M := by
 have hM : 0 ≤ M := by omega
 have a1 : 0 ≤ (M - x) * (M + y) := Int.mul_nonneg (by omega) (by omega)
 have a2 : 0 ≤ (M + x) * (M - y) := Int.mul_nonneg (by omega) (by omega)
 have a3 : 0 ≤ (M - x) * (M - y) := Int.mul_nonneg (by omega) (by omega)
 have a4 : 0 ≤ (M + x) * (M + y) := Int.mul_nonneg (by omega) (by omega)
 simp only [Int.sub_mul, Int.mul_sub, Int.add_mul, Int.mul_add] at a1 a2 a3 a4
 rw [Int.mul_comm M y] at a1 a2 a3 a4
 constructor <;> omega
theorem does1 (x y : Int) (h1 : -32768 ≤ x) (h2 : x ≤ 32767) (h3 : -32768 ≤ y) (h4 : y ≤ 32767) (p q : Nat) (W : World) (c0 : W.cell? ⟨p, 0, none⟩ = some (.int .i64 x)) (c1 : W.cell? ⟨q, 0, none⟩ = some (.int .i64 y)) : Calls Tryz.prog 255 #[.pointer (some ⟨p, 0, none⟩), .pointer (some ⟨q, 0, none⟩)] W (WtEnd W (signedI (x + y))) := by
 go_enter Tryz.func255, Tryz.ntmps255
 go_wp2_with fail
 refine (signed_any _ W).mono ?_
 rintro e w1 ⟨rfl, hb⟩
 go_wp2_with fail
 go_ret2
 exact ⟨rfl, hb⟩
theorem does2 (x y : Int) (h1 : -32768 ≤ x) (h2 : x ≤ 32767) (h3 : -32768 ≤ y) (h4 : y ≤ 32767) (p q : Nat) (W : World) (c0 : W.cell? ⟨p, 0, none⟩ = some (.int .i64 x)) (c1 : W.cell? ⟨q, 0, none⟩ = some (.int .i64 y)) : Calls Tryz.prog 257 #[.pointer (some ⟨p, 0, none⟩), .pointer (some ⟨q, 0, none⟩)] W (WtEnd W (signedI (x - y))) := by
 go_enter Tryz.func257, Tryz.ntmps257
 go_wp2_with fail
 refine (signed_any _ W).mono ?_
 rintro e w1 ⟨rfl, hb⟩
 go_wp2_with fail
 go_ret2
 exact ⟨rfl, hb⟩
theorem does3 (x y : Int) (h1 : -32768 ≤ x) (h2 : x ≤ 32767) (h3 : -32768 ≤ y) (h4 : y ≤ 32767) (p q : Nat) (W : World) (c0 : W.cell? ⟨p, 0, none⟩ = some (.int .i64 x)) (c1 : W.cell? ⟨q, 0, none⟩ = some (.int .i64 y)) : Calls Tryz.prog 258 #[.pointer (some ⟨p, 0, none⟩), .pointer (some ⟨q, 0, none⟩)] W (WtEnd W (signedI (x * y))) := by
 have m1 : -1073741824 ≤ x * y ∧ x * y ≤ 1073741824 := mul_bd x y 32768 (by omega) (by omega) (by omega) (by omega)
 obtain ⟨m1, m2⟩ := m1
 have hw : IntKind.i64.wrap (x * y) = x * y := IntWalk.i64_in _ (by omega)
 go_enter Tryz.func258, Tryz.ntmps258
 go_wp2_with fail
 refine (signed_any _ W).mono ?_
 rintro e w1 ⟨rfl, hb⟩
 go_wp2_with fail
 go_ret2
 exact ⟨rfl, hb⟩
theorem does8 (u v : Int) (h1 : 0 ≤ u) (h2 : u ≤ 65535) (h3 : 0 ≤ v) (h4 : v ≤ 65535) (p q : Nat) (W : World) (c0 : W.cell? ⟨p, 0, none⟩ = some (.int .i64 u)) (c1 : W.cell? ⟨q, 0, none⟩ = some (.int .i64 v)) : Calls Tryz.prog 266 #[.pointer (some ⟨p, 0, none⟩), .pointer (some ⟨q, 0, none⟩)] W (WtEnd W (bareI (u + v))) := by
 go_enter Tryz.func266, Tryz.ntmps266
 go_wp2_with fail
 refine (bare_any _ W).mono ?_
 rintro e w1 ⟨rfl, hb⟩
 go_wp2_with fail
 go_ret2
 exact ⟨rfl, hb⟩
theorem does9 (u v : Int) (h1 : 0 ≤ u) (h2 : u ≤ 65535) (h3 : 0 ≤ v) (h4 : v ≤ 65535) (p q : Nat) (W : World) (c0 : W.cell? ⟨p, 0, none⟩ = some (.int .i64 u)) (c1 : W.cell? ⟨q, 0, none⟩ = some (.int .i64 v)) : Calls Tryz.prog 268 #[.pointer (some ⟨p, 0, none⟩), .pointer (some ⟨q, 0, none⟩)] W (WtEnd W (bareI (u - v))) := by
 go_enter Tryz.func268, Tryz.ntmps268
 go_wp2_with fail
 refine (bare_any _ W).mono ?_
 rintro e w1 ⟨rfl, hb⟩
 go_wp2_with fail
 go_ret2
 exact ⟨rfl, hb⟩
theorem does10 (u v : Int) (h1 : 0 ≤ u) (h2 : u ≤ 65535) (h3 : 0 ≤ v) (h4 : v ≤ 65535) (p q : Nat) (W : World) (c0 : W.cell? ⟨p, 0, none⟩ = some (.int .i64 u)) (c1 : W.cell? ⟨q, 0, none⟩ = some (.int .i64 v)) : Calls Tryz.prog 269 #[.pointer (some ⟨p, 0, none⟩), .pointer (some ⟨q, 0, none⟩)] W (WtEnd W (bareI (u * v))) := by
 have m1 : -4294967296 ≤ u * v ∧ u * v ≤ 4294967296 := mul_bd u v 65536 (by omega) (by omega) (by omega) (by omega)
 obtain ⟨m1, m2⟩ := m1
 have hw : IntKind.i64.wrap (u * v) = u * v := IntWalk.i64_in _ (by omega)
 go_enter Tryz.func269, Tryz.ntmps269
 go_wp2_with fail
 refine (bare_any _ W).mono ?_
 rintro e w1 ⟨rfl, hb⟩
 go_wp2_with fail
 go_ret2
 exact ⟨rfl, hb⟩
theorem does13 (a b : Nat) (_h1 : a < 65536) (_h2 : b < 65536) (p q : Nat) (W : World) (c0 : W.cell? ⟨p, 0, none⟩ = some (.int .u16 (a : Int))) (c1 : W.cell? ⟨q, 0, none⟩ = some (.int .u16 (b : Int))) : Calls Tryz.prog 274 #[.pointer (some ⟨p, 0, none⟩), .pointer (some ⟨q, 0, none⟩)] W (WtEnd W (isI ((a : Int) == b))) := by
 go_enter Tryz.func274, Tryz.ntmps274
 go_wp2_with fail
 refine (is_any _ W).mono ?_
 rintro e w1 ⟨rfl, hb⟩
 go_wp2_with fail
 go_ret2
 exact ⟨rfl, hb⟩
theorem does14 (a b : Nat) (_h1 : a < 65536) (_h2 : b < 65536) (p q : Nat) (W : World) (c0 : W.cell? ⟨p, 0, none⟩ = some (.int .u16 (a : Int))) (c1 : W.cell? ⟨q, 0, none⟩ = some (.int .u16 (b : Int))) : Calls Tryz.prog 276 #[.pointer (some ⟨p, 0, none⟩), .pointer (some ⟨q, 0, none⟩)] W (WtEnd W (isI ((a : Int) != b))) := by
 go_enter Tryz.func276, Tryz.ntmps276
 go_wp2_with fail
 refine (is_any _ W).mono ?_
 rintro e w1 ⟨rfl, hb⟩
 go_wp2_with fail
 go_ret2
 exact ⟨rfl, hb⟩
theorem does15 (x y : Int) (_h1 : -32768 ≤ x) (_h2 : x ≤ 32767) (_h3 : -32768 ≤ y) (_h4 : y ≤ 32767) (p q : Nat) (W : World) (c0 : W.cell? ⟨p, 0, none⟩ = some (.int .i64 x)) (c1 : W.cell? ⟨q, 0, none⟩ = some (.int .i64 y)) : Calls Tryz.prog 277 #[.pointer (some ⟨p, 0, none⟩), .pointer (some ⟨q, 0, none⟩)] W (WtEnd W (isI (asksB 0 x y))) := by
 go_enter Tryz.func277, Tryz.ntmps277
 go_wp2_with fail
 refine (asks_i64 0 (by omega) _ _ W).mono ?_
 rintro e w1 ⟨rfl, hb⟩
 go_wp2_with fail
 go_ret2
 exact ⟨rfl, hb⟩
theorem does16 (x y : Int) (_h1 : -32768 ≤ x) (_h2 : x ≤ 32767) (_h3 : -32768 ≤ y) (_h4 : y ≤ 32767) (p q : Nat) (W : World) (c0 : W.cell? ⟨p, 0, none⟩ = some (.int .i64 x)) (c1 : W.cell? ⟨q, 0, none⟩ = some (.int .i64 y)) : Calls Tryz.prog 279 #[.pointer (some ⟨p, 0, none⟩), .pointer (some ⟨q, 0, none⟩)] W (WtEnd W (isI (asksB 1 x y))) := by
 go_enter Tryz.func279, Tryz.ntmps279
 go_wp2_with fail
 refine (asks_i64 1 (by omega) _ _ W).mono ?_
 rintro e w1 ⟨rfl, hb⟩
 go_wp2_with fail
 go_ret2
 exact ⟨rfl, hb⟩
theorem does17 (x y : Int) (_h1 : -32768 ≤ x) (_h2 : x ≤ 32767) (_h3 : -32768 ≤ y) (_h4 : y ≤ 32767) (p q : Nat) (W : World) (c0 : W.cell? ⟨p, 0, none⟩ = some (.int .i64 x)) (c1 : W.cell? ⟨q, 0, none⟩ = some (.int .i64 y)) : Calls Tryz.prog 280 #[.pointer (some ⟨p, 0, none⟩), .pointer (some ⟨q, 0, none⟩)] W (WtEnd W (isI (asksB 2 x y))) := by
 go_enter Tryz.func280, Tryz.ntmps280
 go_wp2_with fail
 refine (asks_i64 2 (by omega) _ _ W).mono ?_
 rintro e w1 ⟨rfl, hb⟩
 go_wp2_with fail
 go_ret2
 exact ⟨rfl, hb⟩
theorem does18 (x y : Int) (_h1 : -32768 ≤ x) (_h2 : x ≤ 32767) (_h3 : -32768 ≤ y) (_h4 : y ≤ 32767) (p q : Nat) (W : World) (c0 : W.cell? ⟨p, 0, none⟩ = some (.int .i64 x)) (c1 : W.cell? ⟨q, 0, none⟩ = some (.int .i64 y)) : Calls Tryz.prog 281 #[.pointer (some ⟨p, 0, none⟩), .pointer (some ⟨q, 0, none⟩)] W (WtEnd W (isI (asksB 3 x y))) := by
 go_enter Tryz.func281, Tryz.ntmps281
 go_wp2_with fail
 refine (asks_i64 3 (by omega) _ _ W).mono ?_
 rintro e w1 ⟨rfl, hb⟩
 go_wp2_with fail
 go_ret2
 exact ⟨rfl, hb⟩
theorem does19 (a b : Nat) (_h1 : a < 65536) (_h2 : b < 65536) (p q : Nat) (W : World) (c0 : W.cell? ⟨p, 0, none⟩ = some (.int .u16 (a : Int))) (c1 : W.cell? ⟨q, 0, none⟩ = some (.int .u16 (b : Int))) : Calls Tryz.prog 282 #[.pointer (some ⟨p, 0, none⟩), .pointer (some ⟨q, 0, none⟩)] W (WtEnd W (isI (asksB 0 a b))) := by
 go_enter Tryz.func282, Tryz.ntmps282
 go_wp2_with fail
 refine (asks_u16 0 (by omega) _ _ W).mono ?_
 rintro e w1 ⟨rfl, hb⟩
 go_wp2_with fail
 go_ret2
 exact ⟨rfl, hb⟩
theorem does20 (a b : Nat) (_h1 : a < 65536) (_h2 : b < 65536) (p q : Nat) (W : World) (c0 : W.cell? ⟨p, 0, none⟩ = some (.int .u16 (a : Int))) (c1 : W.cell? ⟨q, 0, none⟩ = some (.int .u16 (b : Int))) : Calls Tryz.prog 284 #[.pointer (some ⟨p, 0, none⟩), .pointer (some ⟨q, 0, none⟩)] W (WtEnd W (isI (asksB 1 a b))) := by
 go_enter Tryz.func284, Tryz.ntmps284
 go_wp2_with fail
 refine (asks_u16 1 (by omega) _ _ W).mono ?_
 rintro e w1 ⟨rfl, hb⟩
 go_wp2_with fail
 go_ret2
 exact ⟨rfl, hb⟩
theorem does21 (a b : Nat) (_h1 : a < 65536) (_h2 : b < 65536) (p q : Nat) (W : World) (c0 : W.cell? ⟨p, 0, none⟩ = some (.int .u16 (a : Int))) (c1 : W.cell? ⟨q, 0, none⟩ = some (.int .u16 (b : Int))) : Calls Tryz.prog 285 #[.pointer (some ⟨p, 0, none⟩), .pointer (some ⟨q, 0, none⟩)] W (WtEnd W (isI (asksB 2 a b))) := by
 go_enter Tryz.func285, Tryz.ntmps285
 go_wp2_with fail
 refine (asks_u16 2 (by omega) _ _ W).mono ?_
 rintro e w1 ⟨rfl, hb⟩
 go_wp2_with fail
 go_ret2
 exact ⟨rfl, hb⟩
theorem does22 (a b : Nat) (_h1 : a < 65536) (_h2 : b < 65536) (p q : Nat) (W : World) (c0 : W.cell? ⟨p, 0, none⟩ = some (.int .u16 (a : Int))) (c1 : W.cell? ⟨q, 0, none⟩ = some (.int .u16 (b : Int))) : Calls Tryz.prog 286 #[.pointer (some ⟨p, 0, none⟩), .pointer (some ⟨q, 0, none⟩)] W (WtEnd W (isI (asksB 3 a b))) := by
 go_enter Tryz.func286, Tryz.ntmps286
 go_wp2_with fail
 refine (asks_u16 3 (by omega) _ _ W).mono ?_
 rintro e w1 ⟨rfl, hb⟩
 go_wp2_with fail
 go_ret2
 exact ⟨rfl, hb⟩
theorem does24 (a b : Nat) (_h1 : a < 65536) (_h2 : b < 65536) (p q : Nat) (W : World) (c0 : W.cell? ⟨p, 0, none⟩ = some (.int .u16 (a : Int))) (c1 : W.cell? ⟨q, 0, none⟩ = some (.int .u16 (b : Int))) : Calls Tryz.prog 288 #[.pointer (some ⟨p, 0, none⟩), .pointer (some ⟨q, 0, none⟩)] W (WtEnd W ((bits .or .u16 (a : Int) (b : Int), 0))) := by
 go_enter Tryz.func288, Tryz.ntmps288
 go_wp2_with fail
 refine (plain_any _ W).mono ?_
 rintro e w1 ⟨rfl, hb⟩
 go_wp2_with fail
 go_ret2
 exact ⟨rfl, hb⟩
theorem does25 (a b : Nat) (_h1 : a < 65536) (_h2 : b < 65536) (p q : Nat) (W : World) (c0 : W.cell? ⟨p, 0, none⟩ = some (.int .u16 (a : Int))) (c1 : W.cell? ⟨q, 0, none⟩ = some (.int .u16 (b : Int))) : Calls Tryz.prog 290 #[.pointer (some ⟨p, 0, none⟩), .pointer (some ⟨q, 0, none⟩)] W (WtEnd W ((bits .andNot .u16 (a : Int) (b : Int), 0))) := by
 go_enter Tryz.func290, Tryz.ntmps290
 go_wp2_with fail
 refine (plain_any _ W).mono ?_
 rintro e w1 ⟨rfl, hb⟩
 go_wp2_with fail
 go_ret2
 exact ⟨rfl, hb⟩
theorem does26 (a b : Nat) (_h1 : a < 65536) (_h2 : b < 65536) (p q : Nat) (W : World) (c0 : W.cell? ⟨p, 0, none⟩ = some (.int .u16 (a : Int))) (c1 : W.cell? ⟨q, 0, none⟩ = some (.int .u16 (b : Int))) : Calls Tryz.prog 291 #[.pointer (some ⟨p, 0, none⟩), .pointer (some ⟨q, 0, none⟩)] W (WtEnd W ((bits .and .u16 (a : Int) (b : Int), 0))) := by
 go_enter Tryz.func291, Tryz.ntmps291
 go_wp2_with fail
 refine (plain_any _ W).mono ?_
 rintro e w1 ⟨rfl, hb⟩
 go_wp2_with fail
 go_ret2
 exact ⟨rfl, hb⟩
theorem does27 (a b : Nat) (_h1 : a < 65536) (_h2 : b < 65536) (p q : Nat) (W : World) (c0 : W.cell? ⟨p, 0, none⟩ = some (.int .u16 (a : Int))) (c1 : W.cell? ⟨q, 0, none⟩ = some (.int .u16 (b : Int))) : Calls Tryz.prog 292 #[.pointer (some ⟨p, 0, none⟩), .pointer (some ⟨q, 0, none⟩)] W (WtEnd W ((bits .xor .u16 (a : Int) (b : Int), 0))) := by
 go_enter Tryz.func292, Tryz.ntmps292
 go_wp2_with fail
 refine (plain_any _ W).mono ?_
 rintro e w1 ⟨rfl, hb⟩
 go_wp2_with fail
 go_ret2
 exact ⟨rfl, hb⟩
theorem does29 (a b : Nat) (_h1 : a < 65536) (_h2 : b < 65536) (p q : Nat) (W : World) (c0 : W.cell? ⟨p, 0, none⟩ = some (.int .u16 (a : Int))) (c1 : W.cell? ⟨q, 0, none⟩ = some (.int .u16 (b : Int))) : Calls Tryz.prog 294 #[.pointer (some ⟨p, 0, none⟩), .pointer (some ⟨q, 0, none⟩)] W (WtEnd W (isI (bits .andNot .u16 (a : Int) (b : Int) == 0))) := by
 go_enter Tryz.func294, Tryz.ntmps294
 go_wp2_with fail
 refine (is_any _ W).mono ?_
 rintro e w1 ⟨rfl, hb⟩
 go_wp2_with fail
 go_ret2
 exact ⟨rfl, hb⟩
end Go.Proofs.YtabenhpjgjjgnaaGreatDoor
/- What ops do with words. -/
namespace Go.Proofs.YtabenhpjgjjgnaaGreatDoor
open Go.RowKit
set_option maxRecDepth 100000
theorem over_zero (f : Value) (W : World) : Calls Tryz.prog 260 #[.int .i64 0, f] W (WtEnd W (0, 4)) := by
 go_enter Tryz.func260, Tryz.ntmps260
 go_wp2_with fail
 go_ret2
 exact ⟨rfl, Below.refl _ _⟩
theorem tdiv_bd (x y M : Int) (h1 : -M ≤ x) (h2 : x ≤ M) : -M ≤ x.tdiv y ∧ x.tdiv y ≤ M := by
 have h := Int.natAbs_tdiv_le_natAbs x y
 omega
theorem tmod_bd (x y M : Int) (h1 : -M ≤ x) (h2 : x ≤ M) : -M ≤ x.tmod y ∧ x.tmod y ≤ M := by
 have h := Int.natAbs_tmod x y
 have h2 : x.natAbs % y.natAbs ≤ x.natAbs := Nat.mod_le _ _
 omega
def overI (n : Int) (r : Int × Nat) : Int × Nat := if n = 0 then (0, 4) else r
section
variable (p q : Nat) (W : World)
theorem does4a (x y : Int) (hy : y ≠ 0) (h1 : -32768 ≤ x) (h2 : x ≤ 32767) (_h3 : -32768 ≤ y) (_h4 : y ≤ 32767) (c0 : W.cell? ⟨p, 0, none⟩ = some (.int .i64 x)) (c1 : W.cell? ⟨q, 0, none⟩ = some (.int .i64 y)) : Calls Tryz.prog 261 #[.pointer (some ⟨p, 0, none⟩), .pointer (some ⟨q, 0, none⟩)] W (WtEnd W (signedI (x.tdiv y))) := by
 obtain ⟨m1, m2⟩ := tdiv_bd x y 32768 (by omega) (by omega)
 have hw : IntKind.i64.wrap (x.tdiv y) = x.tdiv y := IntWalk.i64_in _ (by omega)
 have d := beq_eq_false_iff_ne.2 hy
 go_enter Tryz.func261, Tryz.ntmps261
 go_wp2_with fail
 clear d
 refine (signed_any _ W).mono ?_
 rintro e w1 ⟨rfl, hb⟩
 go_wp2_with fail
 go_ret2
 exact ⟨rfl, hb⟩
theorem over4 (n : Int) (hn : n ≠ 0) (cap : Array Value) (r : Int × Nat) (hf : Calls Tryz.prog 261 cap W (WtEnd W r)) : Calls Tryz.prog 260 #[.int .i64 n, .func (.func 261) #[] cap] W (WtEnd W r) := by
 have HF := Lib.hid hf
 clear hf
 have d := beq_eq_false_iff_ne.2 hn
 clear hn
 go_enter Tryz.func260, Tryz.ntmps260
 go_wp2_with fail
 clear d
 refine (HF.out).mono ?_
 rintro e w1 ⟨rfl, hb⟩
 go_wp2_with fail
 go_ret2
 exact ⟨rfl, hb⟩
theorem does4 (x y : Int) (h1 : -32768 ≤ x) (h2 : x ≤ 32767) (h3 : -32768 ≤ y) (h4 : y ≤ 32767) (c0 : W.cell? ⟨p, 0, none⟩ = some (.int .i64 x)) (c1 : W.cell? ⟨q, 0, none⟩ = some (.int .i64 y)) : Calls Tryz.prog 259 #[.pointer (some ⟨q, 0, none⟩), .pointer (some ⟨p, 0, none⟩)] W (WtEnd W (overI y (signedI (x.tdiv y)))) := by
 by_cases hy : y = 0
 ·subst hy
  have HE := Lib.hid (show overI 0 (signedI (x.tdiv 0)) = (0, 4) from if_pos rfl)
  go_enter Tryz.func259, Tryz.ntmps259
  go_wp2_with fail
  refine (over_zero _ W).mono ?_
  rintro e w1 ⟨rfl, hb⟩
  go_wp2_with fail
  go_ret2
  rw [HE.out]
  exact ⟨rfl, hb⟩
 ·have HE := Lib.hid (show overI y (signedI (x.tdiv y)) = signedI (x.tdiv y) from if_neg hy)
  have HF := Lib.hid (does4a p q W x y hy h1 h2 h3 h4 c0 c1)
  go_enter Tryz.func259, Tryz.ntmps259
  go_wp2_with fail
  refine (over4 W y hy _ _ HF.out).mono ?_
  rintro e w1 ⟨rfl, hb⟩
  go_wp2_with fail
  go_ret2
  rw [HE.out]
  exact ⟨rfl, hb⟩
theorem does5a (x y : Int) (hy : y ≠ 0) (h1 : -32768 ≤ x) (h2 : x ≤ 32767) (_h3 : -32768 ≤ y) (_h4 : y ≤ 32767) (c0 : W.cell? ⟨p, 0, none⟩ = some (.int .i64 x)) (c1 : W.cell? ⟨q, 0, none⟩ = some (.int .i64 y)) : Calls Tryz.prog 263 #[.pointer (some ⟨p, 0, none⟩), .pointer (some ⟨q, 0, none⟩)] W (WtEnd W (signedI (x.tmod y))) := by
 obtain ⟨m1, m2⟩ := tmod_bd x y 32768 (by omega) (by omega)
 have hw : IntKind.i64.wrap (x.tmod y) = x.tmod y := IntWalk.i64_in _ (by omega)
 have d := beq_eq_false_iff_ne.2 hy
 go_enter Tryz.func263, Tryz.ntmps263
 go_wp2_with fail
 clear d
 refine (signed_any _ W).mono ?_
 rintro e w1 ⟨rfl, hb⟩
 go_wp2_with fail
 go_ret2
 exact ⟨rfl, hb⟩
theorem over5 (n : Int) (hn : n ≠ 0) (cap : Array Value) (r : Int × Nat) (hf : Calls Tryz.prog 263 cap W (WtEnd W r)) : Calls Tryz.prog 260 #[.int .i64 n, .func (.func 263) #[] cap] W (WtEnd W r) := by
 have HF := Lib.hid hf
 clear hf
 have d := beq_eq_false_iff_ne.2 hn
 clear hn
 go_enter Tryz.func260, Tryz.ntmps260
 go_wp2_with fail
 clear d
 refine (HF.out).mono ?_
 rintro e w1 ⟨rfl, hb⟩
 go_wp2_with fail
 go_ret2
 exact ⟨rfl, hb⟩
theorem does5 (x y : Int) (h1 : -32768 ≤ x) (h2 : x ≤ 32767) (h3 : -32768 ≤ y) (h4 : y ≤ 32767) (c0 : W.cell? ⟨p, 0, none⟩ = some (.int .i64 x)) (c1 : W.cell? ⟨q, 0, none⟩ = some (.int .i64 y)) : Calls Tryz.prog 262 #[.pointer (some ⟨q, 0, none⟩), .pointer (some ⟨p, 0, none⟩)] W (WtEnd W (overI y (signedI (x.tmod y)))) := by
 by_cases hy : y = 0
 ·subst hy
  have HE := Lib.hid (show overI 0 (signedI (x.tmod 0)) = (0, 4) from if_pos rfl)
  go_enter Tryz.func262, Tryz.ntmps262
  go_wp2_with fail
  refine (over_zero _ W).mono ?_
  rintro e w1 ⟨rfl, hb⟩
  go_wp2_with fail
  go_ret2
  rw [HE.out]
  exact ⟨rfl, hb⟩
 ·have HE := Lib.hid (show overI y (signedI (x.tmod y)) = signedI (x.tmod y) from if_neg hy)
  have HF := Lib.hid (does5a p q W x y hy h1 h2 h3 h4 c0 c1)
  go_enter Tryz.func262, Tryz.ntmps262
  go_wp2_with fail
  refine (over5 W y hy _ _ HF.out).mono ?_
  rintro e w1 ⟨rfl, hb⟩
  go_wp2_with fail
  go_ret2
  rw [HE.out]
  exact ⟨rfl, hb⟩
theorem does11a (x y : Int) (hy : y ≠ 0) (h1 : 0 ≤ x) (h2 : x ≤ 65535) (h3 : 0 ≤ y) (h4 : y ≤ 65535) (c0 : W.cell? ⟨p, 0, none⟩ = some (.int .i64 x)) (c1 : W.cell? ⟨q, 0, none⟩ = some (.int .i64 y)) : Calls Tryz.prog 271 #[.pointer (some ⟨p, 0, none⟩), .pointer (some ⟨q, 0, none⟩)] W (WtEnd W (bareI (x / y))) := by
 have hy1 : 1 ≤ y := by omega
 have m1 : 0 ≤ x / y := Int.ediv_nonneg h1 h3
 have m2 : x / y ≤ 65535 := by have := Int.ediv_le_self y h1; omega
 have d := beq_eq_false_iff_ne.2 hy
 go_enter Tryz.func271, Tryz.ntmps271
 go_wp2_with fail
 clear d
 refine (bare_any _ W).mono ?_
 rintro e w1 ⟨rfl, hb⟩
 go_wp2_with fail
 go_ret2
 exact ⟨rfl, hb⟩
theorem over11 (n : Int) (hn : n ≠ 0) (cap : Array Value) (r : Int × Nat) (hf : Calls Tryz.prog 271 cap W (WtEnd W r)) : Calls Tryz.prog 260 #[.int .i64 n, .func (.func 271) #[] cap] W (WtEnd W r) := by
 have HF := Lib.hid hf
 clear hf
 have d := beq_eq_false_iff_ne.2 hn
 clear hn
 go_enter Tryz.func260, Tryz.ntmps260
 go_wp2_with fail
 clear d
 refine (HF.out).mono ?_
 rintro e w1 ⟨rfl, hb⟩
 go_wp2_with fail
 go_ret2
 exact ⟨rfl, hb⟩
theorem does11 (x y : Int) (h1 : 0 ≤ x) (h2 : x ≤ 65535) (h3 : 0 ≤ y) (h4 : y ≤ 65535) (c0 : W.cell? ⟨p, 0, none⟩ = some (.int .i64 x)) (c1 : W.cell? ⟨q, 0, none⟩ = some (.int .i64 y)) : Calls Tryz.prog 270 #[.pointer (some ⟨q, 0, none⟩), .pointer (some ⟨p, 0, none⟩)] W (WtEnd W (overI y (bareI (x / y)))) := by
 by_cases hy : y = 0
 ·subst hy
  have HE := Lib.hid (show overI 0 (bareI (x / 0)) = (0, 4) from if_pos rfl)
  go_enter Tryz.func270, Tryz.ntmps270
  go_wp2_with fail
  refine (over_zero _ W).mono ?_
  rintro e w1 ⟨rfl, hb⟩
  go_wp2_with fail
  go_ret2
  rw [HE.out]
  exact ⟨rfl, hb⟩
 ·have HE := Lib.hid (show overI y (bareI (x / y)) = bareI (x / y) from if_neg hy)
  have HF := Lib.hid (does11a p q W x y hy h1 h2 h3 h4 c0 c1)
  go_enter Tryz.func270, Tryz.ntmps270
  go_wp2_with fail
  refine (over11 W y hy _ _ HF.out).mono ?_
  rintro e w1 ⟨rfl, hb⟩
  go_wp2_with fail
  go_ret2
  rw [HE.out]
  exact ⟨rfl, hb⟩
theorem does12a (x y : Int) (hy : y ≠ 0) (h1 : 0 ≤ x) (h2 : x ≤ 65535) (h3 : 0 ≤ y) (h4 : y ≤ 65535) (c0 : W.cell? ⟨p, 0, none⟩ = some (.int .i64 x)) (c1 : W.cell? ⟨q, 0, none⟩ = some (.int .i64 y)) : Calls Tryz.prog 273 #[.pointer (some ⟨p, 0, none⟩), .pointer (some ⟨q, 0, none⟩)] W (WtEnd W (bareI (x % y))) := by
 have hy1 : 1 ≤ y := by omega
 have m1 : 0 ≤ x % y := Int.emod_nonneg _ hy
 have m2 : x % y ≤ 65535 := by have := Int.emod_lt_of_pos x (show 0 < y by omega); omega
 have d := beq_eq_false_iff_ne.2 hy
 go_enter Tryz.func273, Tryz.ntmps273
 go_wp2_with fail
 clear d
 refine (bare_any _ W).mono ?_
 rintro e w1 ⟨rfl, hb⟩
 go_wp2_with fail
 go_ret2
 exact ⟨rfl, hb⟩
theorem over12 (n : Int) (hn : n ≠ 0) (cap : Array Value) (r : Int × Nat) (hf : Calls Tryz.prog 273 cap W (WtEnd W r)) : Calls Tryz.prog 260 #[.int .i64 n, .func (.func 273) #[] cap] W (WtEnd W r) := by
 have HF := Lib.hid hf
 clear hf
 have d := beq_eq_false_iff_ne.2 hn
 clear hn
 go_enter Tryz.func260, Tryz.ntmps260
 go_wp2_with fail
 clear d
 refine (HF.out).mono ?_
 rintro e w1 ⟨rfl, hb⟩
 go_wp2_with fail
 go_ret2
 exact ⟨rfl, hb⟩
theorem does12 (x y : Int) (h1 : 0 ≤ x) (h2 : x ≤ 65535) (h3 : 0 ≤ y) (h4 : y ≤ 65535) (c0 : W.cell? ⟨p, 0, none⟩ = some (.int .i64 x)) (c1 : W.cell? ⟨q, 0, none⟩ = some (.int .i64 y)) : Calls Tryz.prog 272 #[.pointer (some ⟨q, 0, none⟩), .pointer (some ⟨p, 0, none⟩)] W (WtEnd W (overI y (bareI (x % y)))) := by
 by_cases hy : y = 0
 ·subst hy
  have HE := Lib.hid (show overI 0 (bareI (x % 0)) = (0, 4) from if_pos rfl)
  go_enter Tryz.func272, Tryz.ntmps272
  go_wp2_with fail
  refine (over_zero _ W).mono ?_
  rintro e w1 ⟨rfl, hb⟩
  go_wp2_with fail
  go_ret2
  rw [HE.out]
  exact ⟨rfl, hb⟩
 ·have HE := Lib.hid (show overI y (bareI (x % y)) = bareI (x % y) from if_neg hy)
  have HF := Lib.hid (does12a p q W x y hy h1 h2 h3 h4 c0 c1)
  go_enter Tryz.func272, Tryz.ntmps272
  go_wp2_with fail
  refine (over12 W y hy _ _ HF.out).mono ?_
  rintro e w1 ⟨rfl, hb⟩
  go_wp2_with fail
  go_ret2
  rw [HE.out]
  exact ⟨rfl, hb⟩
theorem does6 (x : Int) (h1 : -32768 ≤ x) (h2 : x ≤ 32767) (c0 : W.cell? ⟨p, 0, none⟩ = some (.int .i64 x)) : Calls Tryz.prog 264 #[.pointer (some ⟨p, 0, none⟩)] W (WtEnd W (signedI (-x))) := by
 go_enter Tryz.func264, Tryz.ntmps264
 go_wp2_with fail
 refine (signed_any _ W).mono ?_
 rintro e w1 ⟨rfl, hb⟩
 go_wp2_with fail
 go_ret2
 exact ⟨rfl, hb⟩
theorem does7 (x : Int) (h1 : -32768 ≤ x) (h2 : x ≤ 32767) (c0 : W.cell? ⟨p, 0, none⟩ = some (.int .i64 x)) : Calls Tryz.prog 265 #[.pointer (some ⟨p, 0, none⟩)] W (WtEnd W (signedI (max x (-x)))) := by
 by_cases h : x < -x
 ·have HM := Lib.hid (show max x (-x) = -x by omega)
  rw [HM.out]
  go_enter Tryz.func265, Tryz.ntmps265
  go_wp2_with fail
  refine (signed_any _ W).mono ?_
  rintro e w1 ⟨rfl, hb⟩
  go_wp2_with fail
  go_ret2
  exact ⟨rfl, hb⟩
 ·have hn : -x ≤ x := by omega
  have HM := Lib.hid (show max x (-x) = x by omega)
  rw [HM.out]
  go_enter Tryz.func265, Tryz.ntmps265
  go_wp2_with fail
  refine (signed_any _ W).mono ?_
  rintro e w1 ⟨rfl, hb⟩
  go_wp2_with fail
  go_ret2
  exact ⟨rfl, hb⟩
theorem does23 (a : Nat) (_h1 : a < 65536) (c0 : W.cell? ⟨p, 0, none⟩ = some (.int .u16 a)) : Calls Tryz.prog 287 #[.pointer (some ⟨p, 0, none⟩)] W (WtEnd W (isI ((a : Int) == 0))) := by
 go_enter Tryz.func287, Tryz.ntmps287
 go_wp2_with fail
 refine (is_any _ W).mono ?_
 rintro e w1 ⟨rfl, hb⟩
 go_wp2_with fail
 go_ret2
 exact ⟨rfl, hb⟩
end
end Go.Proofs.YtabenhpjgjjgnaaGreatDoor
/- What ops do with words. -/
namespace Go.Proofs.YtabenhpjgjjgnaaGreatDoor
open Go.RowKit
set_option maxRecDepth 100000
def shB (i : Nat) : Int := IntKind.u16.wrap ((2 : Int) ^ i)
def rowS (a : Nat) : Nat → Int
 | 0 => 0
 | k + 1 => bits .or .u16 (rowS a k) (shB (a + k))
def rowI (a b : Nat) : Int × Nat := if 15 < a ∨ 15 < b then (0, 2) else (rowS a (b + 1 - a), 0)
theorem row_bad1 (a b : Nat) (h : 15 < a) (W : World) : Calls Tryz.prog 296 #[.int .u16 a, .int .u16 b] W (WtEnd W (0, 2)) := by
 have hI : (15 : Int) < a := by omega
 go_enter Tryz.func296, Tryz.ntmps296
 go_wp2_with fail
 go_ret2
 exact ⟨rfl, Below.refl _ _⟩
theorem row_bad2 (a b : Nat) (h1 : a ≤ 15) (h : 15 < b) (W : World) : Calls Tryz.prog 296 #[.int .u16 a, .int .u16 b] W (WtEnd W (0, 2)) := by
 have hI : (15 : Int) < b := by omega
 have hJ : decide ((15 : Int) < a) = false := decide_eq_false (by omega)
 go_enter Tryz.func296, Tryz.ntmps296
 go_wp2_with fail
 go_ret2
 exact ⟨rfl, Below.refl _ _⟩
theorem row_good (a b : Nat) (h1 : a ≤ 15) (h : b ≤ 15) (W : World) : Calls Tryz.prog 296 #[.int .u16 a, .int .u16 b] W (WtEnd W (rowS a (b + 1 - a), 0)) := by
 have hI : decide ((15 : Int) < b) = false := decide_eq_false (by omega)
 have hJ : decide ((15 : Int) < a) = false := decide_eq_false (by omega)
 go_enter Tryz.func296, Tryz.ntmps296
 go_wp2_with fail
 clear hI hJ
 go_loopg [6, 7] (b + 1 - a) (fun g s i wr => ∃ k : Nat, k + g = b + 1 - a ∧ i = .int .u16 ((a + k : Nat) : Int) ∧ s = .int .u16 (rowS a k) ∧ wr = W)
 case atStart => exact ⟨0, by omega, rfl, rfl, rfl⟩
 case round =>
  obtain ⟨k, hk, rfl, rfl, rfl⟩ := hrel
  by_cases hlt : a + k ≤ b
  ·have hltI : ((a + k : Nat) : Int) ≤ b := by omega
   have HS := Lib.hid (show rowS a (k + 1) = bits .or .u16 (rowS a k) (shB (a + k)) from rfl)
   have hc16 : a + k ≤ 15 := by omega
   generalize hac : a + k = c at *
   have HC := Lib.hid hac
   clear hac
   have hc : (c : Int) ≤ 15 := by omega
   have hc0 : (0 : Int) ≤ c := by omega
   go_wp2_with fail
   go_roundg (gk - 1)
   case measure => have := HC.out; omega
   case rel => exact ⟨k + 1, by have := HC.out; omega, by rw [show a + (k + 1) = c + 1 by have := HC.out; omega]; rfl, by rw [HS.out]; rfl, rfl⟩
  ·have hge : ¬ ((a + k : Nat) : Int) ≤ b := by omega
   have HT := Lib.hid (show rowS a (b + 1 - a) = rowS a k ∨ b + 1 - a < k by
    by_cases h : k ≤ b + 1 - a
    ·left; congr 1; omega
    ·right; omega)
   go_wp2_with fail
   go_ret2
   rcases HT.out with h | h
   ·rw [h]; exact ⟨rfl, Below.refl _ _⟩
   ·omega
theorem setRow_any (a b : Nat) (W : World) : Calls Tryz.prog 296 #[.int .u16 a, .int .u16 b] W (WtEnd W (rowI a b)) := by
 unfold rowI
 by_cases h1 : 15 < a
 ·rw [if_pos (.inl h1)]; exact row_bad1 a b h1 W
 ·by_cases h2 : 15 < b
  ·rw [if_pos (.inr h2)]; exact row_bad2 a b (by omega) h2 W
  ·rw [if_neg (by omega)]; exact row_good a b (by omega) (by omega) W
section
variable (p q : Nat) (W : World)
theorem does30 (a : Nat) (c0 : W.cell? ⟨p, 0, none⟩ = some (.int .u16 a)) : Calls Tryz.prog 295 #[.pointer (some ⟨p, 0, none⟩)] W (WtEnd W (rowI a a)) := by
 go_enter Tryz.func295, Tryz.ntmps295
 go_wp2_with fail
 refine (setRow_any a a W).mono ?_
 rintro e w1 ⟨rfl, hb⟩
 go_wp2_with fail
 go_ret2
 exact ⟨rfl, hb⟩
theorem does31 (a b : Nat) (c0 : W.cell? ⟨p, 0, none⟩ = some (.int .u16 a)) (c1 : W.cell? ⟨q, 0, none⟩ = some (.int .u16 b)) : Calls Tryz.prog 297 #[.pointer (some ⟨p, 0, none⟩), .pointer (some ⟨q, 0, none⟩)] W (WtEnd W (rowI a b)) := by
 go_enter Tryz.func297, Tryz.ntmps297
 go_wp2_with fail
 refine (setRow_any a b W).mono ?_
 rintro e w1 ⟨rfl, hb⟩
 go_wp2_with fail
 go_ret2
 exact ⟨rfl, hb⟩
def inI (a b : Nat) : Bool := decide (a < 16) && (bits .and .u16 ((b : Int) / 2 ^ a) 1 == 1)
theorem does28 (a b : Nat) (h1 : a < 65536) (_h2 : b < 65536) (c0 : W.cell? ⟨p, 0, none⟩ = some (.int .u16 a)) (c1 : W.cell? ⟨q, 0, none⟩ = some (.int .u16 b)) : Calls Tryz.prog 293 #[.pointer (some ⟨p, 0, none⟩), .pointer (some ⟨q, 0, none⟩)] W (WtEnd W (isI (inI a b))) := by
 by_cases h : a < 16
 ·have HE := Lib.hid (show inI a b = (bits .and .u16 ((b : Int) / 2 ^ a) 1 == 1) by unfold inI; rw [decide_eq_true h]; rfl)
  have hI : (a : Int) < 16 := by omega
  go_enter Tryz.func293, Tryz.ntmps293
  go_wp2_with fail
  rw [← HE.out]
  refine (is_any _ W).mono ?_
  rintro e w1 ⟨rfl, hb⟩
  go_wp2_with fail
  go_ret2
  exact ⟨rfl, hb⟩
 ·have HE := Lib.hid (show inI a b = false by unfold inI; rw [decide_eq_false h]; rfl)
  have hI : decide ((a : Int) < 16) = false := decide_eq_false (by omega)
  go_enter Tryz.func293, Tryz.ntmps293
  go_wp2_with fail
  rw [← HE.out]
  refine (is_any _ W).mono ?_
  rintro e w1 ⟨rfl, hb⟩
  go_wp2_with fail
  go_ret2
  exact ⟨rfl, hb⟩
end
end Go.Proofs.YtabenhpjgjjgnaaGreatDoor
