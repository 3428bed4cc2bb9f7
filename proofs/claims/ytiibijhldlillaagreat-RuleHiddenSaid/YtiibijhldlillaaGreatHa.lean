/- The engine's tables at this program, with strings.Contains as their first hook. No condition. -/
import Derived.Test.YtiibijhldlillaaGreatEh
import Derived.Test.YtiibijhldlillaaGreatProg
namespace Go.Proofs.Tryz
open Go.Proofs.YtiibijhldlillaaGreat.Eng
/-- The first hook alone. -/
noncomputable def xf0 (c : Nat) (args : List AV) (s : St) : Option (AV × St) := Nat.rec (contX s args) (fun _ _ => none) c
noncomputable def ext0 : T Nat := T.set .leaf 463 0
noncomputable def B0 : Tb := tb Tryz.prog ext0 xf0

open Go.Proofs.YtiibijhldlillaaGreat.Eng
/-- A sequence's parts; what stands within. -/
def sl : Code → Code
  | .seq x _ => x
  | c => c
def sr : Code → Code
  | .seq _ y => y
  | c => c
def bl : Code → Code
  | .block _ c => c
  | c => c
def lp : Code → Code
  | .loop c => c
  | c => c
def opsC : Code → Array Oper
  | .region _ l _ => l
  | _ => #[]
def okS : Out → St
  | .ok _ _ _ s => s
  | _ => st0
def okTm : Out → Tm
  | .ok _ tm _ _ => tm
  | _ => ⟨.leaf, .nil⟩
noncomputable def newB : Code := Tryz.f87.body.getD .skip
noncomputable def newL : Code := lp (bl (sr (sl (sr (sr newB)))))
noncomputable def newR : Code := sr (sr (sr newB))
noncomputable def ops2 : Array Oper := opsC (sl (sl (sr (sr newB))))
noncomputable def ops3 : Array Oper := opsC (sl newL)
noncomputable def ops4 : Array Oper := opsC (sl (bl (sr (sr newL))))
noncomputable def new5 : Code := sr (bl (sr (sr newL)))
noncomputable def opN (l : Array Oper) (i : Nat) : Oper := l.toList.getD i ⟨none, .move (.tmp 0), 0, "", #[], none⟩
theorem newB_eq : Tryz.f87.body = some (.seq (sl newB) (.seq (sl (sr newB)) (.seq (.seq (.region 2 ops2 false) (.block 0 (.loop newL))) newR))) := by kernel_rfl
theorem newL_eq : newL = .seq (.region 3 ops3 false) (.seq (.cond (.tmp 15) .skip (.exit 0)) (.block 1 (.seq (.region 4 ops4 false) new5))) := by kernel_rfl
theorem ops2_eq : ops2.toList = ops2.toList.take 7 ++ [opN ops2 7] := by kernel_rfl
theorem ops3_eq : ops3.toList = [opN ops3 0, opN ops3 1] := by kernel_rfl
theorem ops4_eq : ops4.toList = opN ops4 0 :: ops4.toList.drop 1 := by kernel_rfl
theorem op27 : (opN ops2 7).op = .range 268 (.tmp 12) ∧ (opN ops2 7).dst = some 13 ∧ (opN ops2 7).guard = none := ⟨by kernel_rfl, by kernel_rfl, by kernel_rfl⟩
theorem op30 : (opN ops3 0).op = .next (.tmp 13) false ∧ (opN ops3 0).dst = some 14 ∧ (opN ops3 0).guard = none := ⟨by kernel_rfl, by kernel_rfl, by kernel_rfl⟩
theorem op40 : (opN ops4 0).op = .entry (.tmp 13) ∧ (opN ops4 0).dst = some 16 ∧ (opN ops4 0).guard = none := ⟨by kernel_rfl, by kernel_rfl, by kernel_rfl⟩
theorem map268 : ∃ k e, Tryz.prog.underlying 268 = some (.map k e) := ⟨9, 3, by kernel_rfl⟩
theorem nt87 : ntOf B0 87 = 52 := by kernel_rfl
theorem fn87 : B0.fn.at_ 87 = some Tryz.f87 := by kernel_rfl
noncomputable def ns87 : NS := nsOf B0 87
noncomputable def A0 (c0 : Nat) : Out := run B0 100000 (.code (sl newB) 87 ⟨.leaf, .nil⟩ [] ⟨.leaf, c0, []⟩)
noncomputable def A1 (c0 : Nat) : Out := run B0 100000 (.code (sl (sr newB)) 87 (okTm (A0 c0)) [] (okS (A0 c0)))
noncomputable def A2 (c0 : Nat) : Out := run B0 100000 (.ops (mapR (moOf B0 ns87 52 ops2.toList) (ops2.toList.take 7)) ⟨(okTm (A1 c0)).g, .nil⟩ [] (okS (A1 c0)))
/-- The five types that have names. -/
def five : List (AV × AV) := [(.str [73, 78, 84, 69, 71, 69, 82], .int .i64 1), (.str [67, 65, 82, 68, 73, 78, 65, 76], .int .i64 2), (.str [66, 79, 79, 76, 69, 65, 78], .int .i64 3), (.str [67, 72, 65, 82], .int .i64 4), (.str [66, 73, 84, 83, 69, 84], .int .i64 9)]
def itemOf (p : AV × AV) : AV × AV := (p.1, .agg [p.1, .int .u8 2, p.2, .lit .nilIface, .int .i64 0, .int .i64 0, .str [], .lit (.slice none 0 0)])
def rowN (c0 : Nat) : AObj := .cells (oneEl [.bool false, .map c0]) 1 2 264 false
def boxN (c0 : Nat) : AObj := .cells (oneEl [.slc (c0 + 1) 0 1 (.ex 1)]) 1 1 267 false
noncomputable def heapN (c0 : Nat) (L : List (AV × AV)) : T AObj := ((T.set .leaf c0 (.map .str L)).set (c0 + 1) (rowN c0)).set (c0 + 2) (boxN c0)
/-- What is there at a round's start. -/
noncomputable def Sx (c0 i : Nat) (L : List (AV × AV)) : St := ⟨heapN c0 L, c0 + 4 + 2 * i, []⟩
noncomputable def tmL (c0 it : Nat) : Tm := ⟨(T.set .leaf 1 (.ptr (c0 + 2) 0)).set 13 (.lit (.pointer (some ⟨it, 0, none⟩))), .nil⟩
noncomputable def A3 (c0 i it : Nat) (x : AV) (L : List (AV × AV)) : Out := run B0 100000 (.ops (mapR (moOf B0 ns87 52 ops3.toList) [opN ops3 1]) (put (md ns87 (some 14)) x (tmL c0 it)) [] (Sx c0 i L))
noncomputable def A4 (c0 i it : Nat) (k n : AV) (L : List (AV × AV)) : Out := run B0 100000 (.ops (mapR (moOf B0 ns87 52 ops4.toList) (ops4.toList.drop 1)) (put (md ns87 (some 16)) (.tup [k, n]) (tmL c0 it)) [] (Sx c0 i L))
noncomputable def A5 (c0 i it : Nat) (k n : AV) (L : List (AV × AV)) : Out := run B0 100000 (.code new5 87 (okTm (A4 c0 i it k n L)) [] (Sx c0 i L))
noncomputable def A6 (c0 it : Nat) : Out := run B0 100000 (.code newR 87 (tmL c0 it) [] (Sx c0 5 (five.map itemOf)))
/-- An end, in what is wanted of it. -/
noncomputable def seeT (c0 c1 t : Nat) (tm : Tm) (s : St) : Option AObj × Option AObj × Option AObj × Bool × AV × AV × AV := (s.heap.at_ c0, s.heap.at_ (c0 + 1), s.heap.at_ (c0 + 2), Nat.ble s.next c1, ev (mvT ns87 1) tm, ev (mvT ns87 13) tm, ev (mvT ns87 t) tm)
noncomputable def seeN (c0 c1 t : Nat) : Out → Option (Option AObj × Option AObj × Option AObj × Bool × AV × AV × AV)
  | .ok .normal tm [] s => some (seeT c0 c1 t tm s)
  | _ => none
noncomputable def seeR (c0 c1 t : Nat) : Out → Option (Option AObj × Option AObj × Option AObj × Bool × AV × AV × AV)
  | .ok .ret tm [] s => some (seeT c0 c1 t tm s)
  | _ => none
theorem seeN_inv {c0 c1 t : Nat} {r : Out} {o0 o1 o2 : AObj} {v1 v13 v : AV} (h : seeN c0 c1 t r = some (some o0, some o1, some o2, true, v1, v13, v)) : ∃ tm s, r = .ok .normal tm [] s ∧ s.heap.at_ c0 = some o0 ∧ s.heap.at_ (c0 + 1) = some o1 ∧ s.heap.at_ (c0 + 2) = some o2 ∧ s.next ≤ c1 ∧ ev (mvT ns87 1) tm = v1 ∧ ev (mvT ns87 13) tm = v13 ∧ ev (mvT ns87 t) tm = v := by
  unfold seeN at h
  split at h
  · rename_i tm s
    injection h with h
    unfold seeT at h
    injection h with h1 h
    injection h with h2 h
    injection h with h3 h
    injection h with h4 h
    injection h with h5 h
    injection h with h6 h7
    exact ⟨tm, s, rfl, h1, h2, h3, Nat.le_of_ble_eq_true h4, h5, h6, h7⟩
  · cases h
theorem seeR_inv {c0 c1 t : Nat} {r : Out} {o0 o1 o2 : AObj} {v1 v13 v : AV} (h : seeR c0 c1 t r = some (some o0, some o1, some o2, true, v1, v13, v)) : ∃ tm s, r = .ok .ret tm [] s ∧ s.heap.at_ c0 = some o0 ∧ s.heap.at_ (c0 + 1) = some o1 ∧ s.heap.at_ (c0 + 2) = some o2 ∧ s.next ≤ c1 ∧ ev (mvT ns87 1) tm = v1 ∧ ev (mvT ns87 13) tm = v13 ∧ ev (mvT ns87 t) tm = v := by
  unfold seeR at h
  split at h
  · rename_i tm s
    injection h with h
    unfold seeT at h
    injection h with h1 h
    injection h with h2 h
    injection h with h3 h
    injection h with h4 h
    injection h with h5 h
    injection h with h6 h7
    exact ⟨tm, s, rfl, h1, h2, h3, Nat.le_of_ble_eq_true h4, h5, h6, h7⟩
  · cases h

open Go.Proofs.YtiibijhldlillaaGreat.Eng
set_option maxRecDepth 100000
open Go.RowKit (Below)
def mkI (name : List Nat) (kind typ : Nat) (v : AV) (at_ : Nat) : AV × AV := (.str name, .agg [.str name, .int .u8 (.ofNat kind), .int .i64 (.ofNat typ), v, .int .i64 0, .int .i64 (.ofNat at_), .str [], .lit (.slice none 0 0)])
def stdI (name : List Nat) (at_ : Nat) : AV × AV := mkI name 8 0 (.lit .nilIface) at_
def items : List (AV × AV) := [mkI [73, 78, 84, 69, 71, 69, 82] 2 1 (.lit .nilIface) 0, mkI [67, 65, 82, 68, 73, 78, 65, 76] 2 2 (.lit .nilIface) 0, mkI [66, 79, 79, 76, 69, 65, 78] 2 3 (.lit .nilIface) 0, mkI [67, 72, 65, 82] 2 4 (.lit .nilIface) 0, mkI [66, 73, 84, 83, 69, 84] 2 9 (.lit .nilIface) 0,
  mkI [70, 65, 76, 83, 69] 1 3 (.ifc 216 (.bool false)) 0, mkI [84, 82, 85, 69] 1 3 (.ifc 216 (.bool true)) 0, mkI [78, 73, 76] 1 7 (.ifc 221 (.agg [])) 0,
  stdI [65, 66, 83] 1, stdI [67, 65, 80] 2, stdI [67, 72, 82] 3, stdI [68, 69, 67] 4, stdI [68, 73, 83, 80, 79, 83, 69] 5, stdI [69, 88, 67, 76] 6, stdI [72, 65, 76, 84] 7, stdI [72, 73, 71, 72] 8, stdI [73, 78, 67] 9, stdI [73, 78, 67, 76] 10, stdI [77, 65, 88] 11, stdI [77, 73, 78] 12, stdI [78, 69, 87] 13, stdI [79, 68, 68] 14, stdI [79, 82, 68] 15, stdI [83, 73, 90, 69] 16, stdI [86, 65, 76] 17]
def nil3 (c0 : Nat) : List (Nat × AObj) := [(c0, .map .str items), (c0 + 1, rowN c0), (c0 + 2, boxN c0)]
/-- What the run tells, with the numbers from c0 on. -/
structure NewFacts (c0 : Nat) : Prop where
  big : 1000 ≤ c0
  a0 : A0 c0 = .ok .normal (okTm (A0 c0)) [] (okS (A0 c0))
  a1 : A1 c0 = .ok .normal (okTm (A1 c0)) [] (okS (A1 c0))
  a2 : seeN c0 (c0 + 4) 12 (A2 c0) = some (some (.map .str []), some (rowN c0), some (boxN c0), true, .ptr (c0 + 2) 0, ev (mvT ns87 13) (okTm (A2 c0)), .map (c0 + 3))
  a2m : (okS (A2 c0)).heap.at_ (c0 + 3) = some (.map .str five)
  a3 : ∀ i it x y L, i < 6 → x = .bool true ∨ x = .bool false → seeN c0 (c0 + 4 + 2 * i) 15 (A3 c0 i it (.tup (x :: y)) L) = some (some (.map .str L), some (rowN c0), some (boxN c0), true, .ptr (c0 + 2) 0, .lit (.pointer (some ⟨it, 0, none⟩)), x)
  a4 : ∀ i it p L, i < 5 → p ∈ five → seeN c0 (c0 + 4 + 2 * i) 13 (A4 c0 i it p.1 p.2 L) = some (some (.map .str L), some (rowN c0), some (boxN c0), true, .ptr (c0 + 2) 0, .lit (.pointer (some ⟨it, 0, none⟩)), .lit (.pointer (some ⟨it, 0, none⟩)))
  a5 : ∀ i it p L, i < 5 → p ∈ five → seeN c0 (c0 + 4 + 2 * (i + 1)) 13 (A5 c0 i it p.1 p.2 L) = some (some (.map .str (putM p.1 (itemOf p).2 L)), some (rowN c0), some (boxN c0), true, .ptr (c0 + 2) 0, .lit (.pointer (some ⟨it, 0, none⟩)), .lit (.pointer (some ⟨it, 0, none⟩)))
  a6 : ∀ it, seeR c0 (c0 + 55) 0 (A6 c0 it) = some (some (.map .str items), some (rowN c0), some (boxN c0), true, .ptr (c0 + 2) 0, .lit (.pointer (some ⟨it, 0, none⟩)), .ptr (c0 + 2) 0)
theorem lt5 {i : Nat} (h : i < 5) : i = 0 ∨ i = 1 ∨ i = 2 ∨ i = 3 ∨ i = 4 := by omega
theorem lt6 {i : Nat} (h : i < 6) : i = 0 ∨ i = 1 ∨ i = 2 ∨ i = 3 ∨ i = 4 ∨ i = 5 := by omega
theorem in5 {p : AV × AV} (h : p ∈ five) : p = (.str [73, 78, 84, 69, 71, 69, 82], .int .i64 1) ∨ p = (.str [67, 65, 82, 68, 73, 78, 65, 76], .int .i64 2) ∨ p = (.str [66, 79, 79, 76, 69, 65, 78], .int .i64 3) ∨ p = (.str [67, 72, 65, 82], .int .i64 4) ∨ p = (.str [66, 73, 84, 83, 69, 84], .int .i64 9) := by
  simpa [five] using h
end Go.Proofs.Tryz
