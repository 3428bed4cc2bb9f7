/- separatumref21's reader: module. Condition: what lies in memory can lie there. -/
import Derived.Test.YtckbfocbainlpaaTa
import Derived.Test.YtckbfocbainlpaaWa
import Derived.Deep.CutBlock
import Derived.Deep.DeepCutAuto
namespace Go.Proofs.Ytckbfocbainlpaa
open Go.RowKit
set_option maxRecDepth 100000

/-- What holds while a module is read: the answer's box, the module's, the reader, three rows, what is old. -/
structure FI (w : World) (r : Nat) (s : List UInt8) (code : List UInt8) (v1 : Value) (mp : List ProcL) (v2 : Value) (mi : List Int) (dat : Int) (v3 : Value) (mt : List Nat) (q : Rs) (W : World) : Prop where
  res : Box w.heap.size #[.string ⟨#[]⟩, .slice none 0 0, .slice none 0 0, .int .i64 0, .slice none 0 0] 41 W
  box : Box (w.heap.size + 1) #[.string ⟨code.toArray⟩, v1, v2, .int .i64 dat, v3] 41 W
  rd : RfAt r s q W
  o1 : W.ownsRow (w.heap.size + 2) 90 6 v1 mp.length (mp.flatMap cellsP)
  o2 : W.ownsRow (w.heap.size + 2) 3 1 v2 mi.length (mi.flatMap cellsI)
  o3 : W.ownsRow (w.heap.size + 2) 50 1 v3 mt.length (mt.flatMap cellsW)
  old : w.grownBy W (some r)
  lt : r < w.heap.size
section
variable {w : World} {r : Nat} {s code : List UInt8} {v1 v2 v3 : Value} {mp : List ProcL} {mi : List Int} {dat : Int} {mt : List Nat} {q q' : Rs} {W W' : World}
theorem RfAt.app {B : Nat} {e : TypeId} {size : Nat} {v : Value} {n : Nat} {xs : List Value} (h : RfAt r s q W) (hown : W.ownsRow B e size v n xs) (hg : W.grownBy W' v.ownBlock) (hr : r < B) : RfAt r s q W' := by
  obtain ⟨p, h, h2⟩ := h
  exact ⟨p, ⟨(hg.block r h.lt (fun e => by have := (hown.lt r e.symm).1; omega)).trans h.1, h.2⟩, h2⟩
theorem FI.grow (h : FI w r s code v1 mp v2 mi dat v3 mt q W) (hb : Below W.heap.size W W') : FI w r s code v1 mp v2 mi dat v3 mt q W' :=
  ⟨h.res.grow hb, h.box.grow hb, h.rd.grow hb, own_later h.o1 hb, own_later h.o2 hb, own_later h.o3 hb, h.old.trans (grown_below hb), h.lt⟩
theorem FI.read (h : FI w r s code v1 mp v2 mi dat v3 mt q W) (hr : RfAt r s q' W') (hg : W.grownBy W' (some r)) : FI w r s code v1 mp v2 mi dat v3 mt q' W' :=
  ⟨h.res.other hg (by have := h.lt; omega), h.box.other hg (by have := h.lt; omega), hr, own_other h.o1 hg (by have := h.lt; omega), own_other h.o2 hg (by have := h.lt; omega), own_other h.o3 hg (by have := h.lt; omega), h.old.trans hg, h.lt⟩
theorem FI.setc (h : FI w r s code v1 mp v2 mi dat v3 mt q W) (c : List UInt8) : FI w r s c v1 mp v2 mi dat v3 mt q (W.setCell ⟨w.heap.size + 1, 0, none⟩ (.string ⟨c.toArray⟩)) :=
  ⟨h.res.setOther (by omega) 0 _, (h.box.set 0 _).to (by simp), h.rd.setOther (by have := h.lt; omega) 0 _, own_set h.o1 (by omega) 0 _, own_set h.o2 (by omega) 0 _, own_set h.o3 (by omega) 0 _, grown_setNew h.old (by omega) 0 _, h.lt⟩
theorem FI.setd (h : FI w r s code v1 mp v2 mi dat v3 mt q W) (d : Int) : FI w r s code v1 mp v2 mi d v3 mt q (W.setCell ⟨w.heap.size + 1, 3, none⟩ (.int .i64 d)) :=
  ⟨h.res.setOther (by omega) 3 _, (h.box.set 3 _).to (by simp), h.rd.setOther (by have := h.lt; omega) 3 _, own_set h.o1 (by omega) 3 _, own_set h.o2 (by omega) 3 _, own_set h.o3 (by omega) 3 _, grown_setNew h.old (by omega) 3 _, h.lt⟩
theorem Box.appB {k : Nat} {cs : Array Value} {T e : TypeId} {w w' : World} {B size : Nat} {v : Value} {n : Nat} {xs : List Value} (h : Box k cs T w) (hown : w.ownsRow B e size v n xs) (hg : w.grownBy w' v.ownBlock) (hk : k < B) : Box k cs T w' :=
  ⟨(hg.block k h.lt (fun e => by have := (hown.lt k e.symm).1; omega)).trans h.1, h.2⟩
theorem FI.push1 {x : ProcL} {v : Value} (h : FI w r s code v1 mp v2 mi dat v3 mt q W) (hA : App W W' (w.heap.size + 2) 90 6 v1 v (mp.length + 1) (mp.flatMap cellsP ++ cellsP x)) : FI w r s code v (mp ++ [x]) v2 mi dat v3 mt q (W'.setCell ⟨w.heap.size + 1, 1, none⟩ v) :=
  ⟨(h.res.appB h.o1 hA.grown (by omega)).setOther (by omega) 1 _, ((h.box.appB h.o1 hA.grown (by omega)).set 1 _).to (by simp), (h.rd.app h.o1 hA.grown (by have := h.lt; omega)).setOther (by have := h.lt; omega) 1 _,
    own_set (by rw [List.flatMap_append, List.length_append]; simpa using hA.own) (by omega) 1 _, own_set (own_keep h.o2 h.o1 (by decide) hA.grown) (by omega) 1 _, own_set (own_keep h.o3 h.o1 (by decide) hA.grown) (by omega) 1 _,
    grown_setNew (grown_app h.old h.o1 hA.grown (by omega)) (by omega) 1 _, h.lt⟩
theorem FI.push2 {x : Int} {v : Value} (h : FI w r s code v1 mp v2 mi dat v3 mt q W) (hA : App W W' (w.heap.size + 2) 3 1 v2 v (mi.length + 1) (mi.flatMap cellsI ++ cellsI x)) : FI w r s code v1 mp v (mi ++ [x]) dat v3 mt q (W'.setCell ⟨w.heap.size + 1, 2, none⟩ v) :=
  ⟨(h.res.appB h.o2 hA.grown (by omega)).setOther (by omega) 2 _, ((h.box.appB h.o2 hA.grown (by omega)).set 2 _).to (by simp), (h.rd.app h.o2 hA.grown (by have := h.lt; omega)).setOther (by have := h.lt; omega) 2 _,
    own_set (own_keep h.o1 h.o2 (by decide) hA.grown) (by omega) 2 _, own_set (by rw [List.flatMap_append, List.length_append]; simpa using hA.own) (by omega) 2 _, own_set (own_keep h.o3 h.o2 (by decide) hA.grown) (by omega) 2 _,
    grown_setNew (grown_app h.old h.o2 hA.grown (by omega)) (by omega) 2 _, h.lt⟩
theorem FI.push3 {x : Nat} {v : Value} (h : FI w r s code v1 mp v2 mi dat v3 mt q W) (hA : App W W' (w.heap.size + 2) 50 1 v3 v (mt.length + 1) (mt.flatMap cellsW ++ cellsW x)) : FI w r s code v1 mp v2 mi dat v (mt ++ [x]) q (W'.setCell ⟨w.heap.size + 1, 4, none⟩ v) :=
  ⟨(h.res.appB h.o3 hA.grown (by omega)).setOther (by omega) 4 _, ((h.box.appB h.o3 hA.grown (by omega)).set 4 _).to (by simp), (h.rd.app h.o3 hA.grown (by have := h.lt; omega)).setOther (by have := h.lt; omega) 4 _,
    own_set (own_keep h.o1 h.o3 (by decide) hA.grown) (by omega) 4 _, own_set (own_keep h.o2 h.o3 (by decide) hA.grown) (by omega) 4 _, own_set (by rw [List.flatMap_append, List.length_append]; simpa using hA.own) (by omega) 4 _,
    grown_setNew (grown_app h.old h.o3 hA.grown (by omega)) (by omega) 4 _, h.lt⟩
end
theorem RfAt.c2 {r : Nat} {s : List UInt8} {q : Rs} {W : World} (h : RfAt r s q W) : W.cell? ⟨r, 2, none⟩ = some (.bool q.bad) := by
  obtain ⟨p, h, _⟩ := h; exact (h.cell 2).trans rfl
theorem own_sl2 {w : World} {B : Nat} {e : TypeId} {size : Nat} {v : Value} {n : Nat} {xs : List Value} (h : w.ownsRow B e size v n xs) : ∃ A m c, v = .slice A m c := by
  obtain ⟨A, c, h⟩ := own_slice' h
  exact ⟨A, n, c, h⟩
theorem procR_eq (r : Rs) : procR r = (⟨numV r 2, numV (rawS r 2) 2, numV (rawS (rawS r 2) 2) 2, numV (rawS (rawS (rawS r 2) 2) 2) 2, numV (rawS (rawS (rawS (rawS r 2) 2) 2) 2) 1, truthV (rawS (rawS (rawS (rawS (rawS r 2) 2) 2) 2) 1)⟩, truthS (rawS (rawS (rawS (rawS (rawS r 2) 2) 2) 2) 1)) := rfl
theorem impR_eq (r : Rs) : impR r = ((numV r 1 : Int), rawS r 1) := rfl
theorem wordR_eq (r : Rs) : wordR r = (numV r 2, rawS r 2) := rfl
/-- How a module's reading ends. -/
def RfMod (w : World) (r : Nat) (s : List UInt8) (m : ModL) (q : Rs) (e : Ending) (w' : World) : Prop := ∃ ms, e = .returned (modV ms m) ∧ Fresh w ms m w' ∧ RfAt r s q w' ∧ w.grownBy w' (some r)
abbrev put5 (W : World) (k : Nat) (u0 u1 u2 u3 u4 : Value) : World := World.setCell (World.setCell (World.setCell (World.setCell (World.setCell W ⟨k, 0, none⟩ u0) ⟨k, 1, none⟩ u1) ⟨k, 2, none⟩ u2) ⟨k, 3, none⟩ u3) ⟨k, 4, none⟩ u4
theorem Box.put5 {k : Nat} {a b c d e : Value} {T : TypeId} {W : World} (h : Box k #[a, b, c, d, e] T W) (u0 u1 u2 u3 u4 : Value) : Box k #[u0, u1, u2, u3, u4] T (put5 W k u0 u1 u2 u3 u4) :=
  ((((((((((h.set 0 u0).to (ds := #[u0, b, c, d, e]) (by simp)).set 1 u1).to (ds := #[u0, u1, c, d, e]) (by simp)).set 2 u2).to (ds := #[u0, u1, u2, d, e]) (by simp)).set 3 u3).to (ds := #[u0, u1, u2, u3, e]) (by simp)).set 4 u4).to (by simp))
theorem R3.put5 {w : World} {A5 : Option Addr} {c5 : Nat} {mp : List ProcL} {A8 : Option Addr} {c8 : Nat} {mi : List Int} {Ad : Option Addr} {cd : Nat} {mt : List Nat} {W : World} (h : R3 w A5 c5 mp A8 c8 mi Ad cd mt W) {p : Nat} (hp : p < w.heap.size + 1) (u0 u1 u2 u3 u4 : Value) : R3 w A5 c5 mp A8 c8 mi Ad cd mt (put5 W p u0 u1 u2 u3 u4) :=
  ((((h.set hp 0 u0).set hp 1 u1).set hp 2 u2).set hp 3 u3).set hp 4 u4
theorem grown_put5 {w w' : World} {r : Option Nat} (h : w.grownBy w' r) {p : Nat} (hp : w.heap.size ≤ p) (u0 u1 u2 u3 u4 : Value) : w.grownBy (put5 w' p u0 u1 u2 u3 u4) r :=
  grown_setNew (grown_setNew (grown_setNew (grown_setNew (grown_setNew h hp 0 u0) hp 1 u1) hp 2 u2) hp 3 u3) hp 4 u4
theorem RfAt.put5 {r : Nat} {s : List UInt8} {q : Rs} {w : World} (h : RfAt r s q w) {k : Nat} (hk : k ≠ r) (u0 u1 u2 u3 u4 : Value) : RfAt r s q (put5 w k u0 u1 u2 u3 u4) :=
  ((((h.setOther hk 0 u0).setOther hk 1 u1).setOther hk 2 u2).setOther hk 3 u3).setOther hk 4 u4
theorem rfmod_ret {w W : World} {R : Ending → World → Prop} {u0 u1 u2 u3 u4 : Value} {c : Array Value} (hX : Box w.heap.size #[u0, u1, u2, u3, u4] 41 W) (h2 : c.getD 2 undef = .pointer (some ⟨w.heap.size, 0, none⟩))
    (hR : R (.returned (.agg #[u0, u1, u2, u3, u4])) W) : bodyPost Try.prog Try.f57 R .ret { tmps := c, defers := [] } W := by
  have c0 : W.cell? ⟨w.heap.size, 0, none⟩ = some u0 := (hX.cell 0).trans rfl
  have c1 : W.cell? ⟨w.heap.size, 1, none⟩ = some u1 := (hX.cell 1).trans rfl
  have c2 : W.cell? ⟨w.heap.size, 2, none⟩ = some u2 := (hX.cell 2).trans rfl
  have c3 : W.cell? ⟨w.heap.size, 3, none⟩ = some u3 := (hX.cell 3).trans rfl
  have c4 : W.cell? ⟨w.heap.size, 4, none⟩ = some u4 := (hX.cell 4).trans rfl
  refine bodyPost_ret (v := .agg #[u0, u1, u2, u3, u4]) ?_ rfl hR
  have h2' : c[2]?.getD undef = .pointer (some ⟨w.heap.size, 0, none⟩) := by simpa using h2
  simp only [results, Try.results57]
  simp [go_sem, h2', c0, c1, c2, c3, c4]
/-- The end: the module in the answer's box. -/
theorem FI.fin {w : World} {r : Nat} {s code : List UInt8} {A1 A2 A3 : Option Addr} {c1 c2 c3 : Nat} {mp : List ProcL} {mi : List Int} {dat : Int} {mt : List Nat} {q : Rs} {W : World} {m : ModL} {e : Rs} (h : FI w r s code (.slice A1 mp.length c1) mp (.slice A2 mi.length c2) mi dat (.slice A3 mt.length c3) mt q W)
    (hm : m = ⟨code, mp, mi, dat, mt⟩) (he : e = q) (hw : ∀ x ∈ mt, x < 65536) (h0 : code.length ≤ 65535) (h1 : mp.length ≤ 65535) (h2 : mi.length ≤ 65535) (h3 : mt.length ≤ 65535) :
    RfMod w r s m e (.returned (.agg #[.string ⟨code.toArray⟩, .slice A1 mp.length c1, .slice A2 mi.length c2, .int .i64 dat, .slice A3 mt.length c3])) (put5 W w.heap.size (.string ⟨code.toArray⟩) (.slice A1 mp.length c1) (.slice A2 mi.length c2) (.int .i64 dat) (.slice A3 mt.length c3)) := by
  subst hm he
  exact ⟨⟨A1, c1, A2, c2, A3, c3⟩, rfl, ⟨R3.put5 ⟨own_lower h.o1 (by omega), own_lower h.o2 (by omega), own_lower h.o3 (by omega)⟩ (Nat.lt_succ_self _) _ _ _ _ _, hw, h0, h1, h2, h3⟩, h.rd.put5 (by have := h.lt; omega) _ _ _ _ _, grown_put5 h.old (Nat.le_refl _) _ _ _ _ _⟩
theorem FI.bad {w : World} {r : Nat} {s code : List UInt8} {v1 v2 v3 : Value} {mp : List ProcL} {mi : List Int} {dat : Int} {mt : List Nat} {t : List UInt8} {b : Bool} {W : World} (h : FI w r s code v1 mp v2 mi dat v3 mt ⟨t, b⟩ W) (c : Bool) : FI w r s code v1 mp v2 mi dat v3 mt ⟨t, c⟩ (W.setCell ⟨r, 2, none⟩ (.bool c)) :=
  h.read (h.rd.bad c) (grown_set (grown_refl _ _) 2 _)
theorem RfAt.f2 {r : Nat} {s : List UInt8} {q : Rs} {W : World} (h : RfAt r s q W) : W.frozen? ⟨r, 2, none⟩ = false := by
  obtain ⟨p, h, _⟩ := h; exact h.frozen 2
set_option maxHeartbeats 4000000 in
theorem refRdModule_any (r : Nat) (s : List UInt8) (q : Rs) (hs : s.length ≤ 140737488355328) (w : World) (hR : RfAt r s q w) :
    Calls Try.prog 57 #[.pointer (some ⟨r, 0, none⟩)] w (RfMod w r s (modM q) (modS q)) := by
  have hrl := hR.lt
  have HB0 := Lib.hid (((Below.refl w.heap.size w).alloc (Nat.le_refl _) (.cells #[.string ⟨#[]⟩, .slice none 0 0, .slice none 0 0, .int .i64 0, .slice none 0 0] 41)).alloc (by simp) (.cells #[.string ⟨#[]⟩, .slice none 0 0, .slice none 0 0, .int .i64 0, .slice none 0 0] 41))
  have HM := Lib.hid (show FI w r s [] (.slice none 0 0) [] (.slice none 0 0) [] 0 (.slice none 0 0) [] q ((w.alloc (.cells #[.string ⟨#[]⟩, .slice none 0 0, .slice none 0 0, .int .i64 0, .slice none 0 0] 41)).alloc (.cells #[.string ⟨#[]⟩, .slice none 0 0, .slice none 0 0, .int .i64 0, .slice none 0 0] 41)) from
    ⟨(Box.new w _ _ (by decide)).grow (alloc_below _ _), by have := Box.new (w.alloc (.cells #[.string ⟨#[]⟩, .slice none 0 0, .slice none 0 0, .int .i64 0, .slice none 0 0] 41)) #[.string ⟨#[]⟩, .slice none 0 0, .slice none 0 0, .int .i64 0, .slice none 0 0] 41 (by decide); simpa using this, hR.grow HB0.out, World.ownsRow_nil .., World.ownsRow_nil .., World.ownsRow_nil .., grown_below HB0.out, hrl⟩)
  have HMod := Lib.hid (show modM q = ⟨rawV (rawS q 2) (numV q 2), (ps q).1, (is q).1, numV (is q).2 2, (ts q).1⟩ from rfl)
  have HSt := Lib.hid (show modS q = ⟨(ts q).2.s, (ts q).2.bad || !modOkB (modM q)⟩ from rfl)
  have Hr2 := Lib.hid (show rawS (rawS q 2) (numV q 2) = r2 q from rfl)
  have Hps := Lib.hid (show listTo procR (numV (r2 q) 2) (rawS (r2 q) 2) = ps q from rfl)
  have His := Lib.hid (show listTo impR (numV (ps q).2 1) (rawS (ps q).2 1) = is q from rfl)
  have Hr7 := Lib.hid (show rawS (is q).2 2 = r7 q from rfl)
  have Hts := Lib.hid (show listTo wordR (numV (r7 q) 2) (rawS (r7 q) 2) = ts q from rfl)
  have y1 := numV2_lt q
  have y2 := numV2_lt (r2 q)
  have y3 := numV1_lt (ps q).2
  have y4 := numV2_lt (is q).2
  have y5 := numV2_lt (r7 q)
  have x0 := rawV_len (rawS q 2) (numV q 2)
  have x1 : (ps q).1.length ≤ numV (r2 q) 2 := listTo_len procR _ _
  have x2 : (is q).1.length ≤ numV (ps q).2 1 := listTo_len impR _ _
  have x3 : (ts q).1.length ≤ numV (r7 q) 2 := listTo_len wordR _ _
  have HW := Lib.hid (show ∀ x ∈ (ts q).1, x < 65536 from words_lt _ _)
  clear hR HB0
  go_enter Try.func57, Try.ntmps57
  go_wp2_with fail
  generalize (w.alloc (.cells #[.string ⟨#[]⟩, .slice none 0 0, .slice none 0 0, .int .i64 0, .slice none 0 0] 41)).alloc (.cells #[.string ⟨#[]⟩, .slice none 0 0, .slice none 0 0, .int .i64 0, .slice none 0 0] 41) = w0 at *
  refine (refNum2 r s q hs _ HM.out.rd).mono ?_
  rintro e w1 ⟨rfl, hr1, hg1⟩
  have HM1 := Lib.hid (HM.out.read hr1 hg1)
  clear hr1 hg1 HM
  go_wp2_with fail
  refine (refTake_any r s (rawS q 2) (numV q 2) (by omega) hs _ HM1.out.rd).mono ?_
  rintro e w2 ⟨rfl, hr1, hg1⟩
  rw [Hr2.out] at hr1
  have HM2 := Lib.hid (HM1.out.read hr1 hg1)
  clear hr1 hg1 HM1
  generalize rawV (rawS q 2) (numV q 2) = code at *
  have c0 : w2.cell? ⟨w.heap.size + 1, 0, none⟩ = some (.string ⟨#[]⟩) := (HM2.out.box.cell 0).trans rfl
  have f0 := HM2.out.box.frozen 0
  go_wp2_with fail
  have HM3 := Lib.hid (HM2.out.setc code)
  clear c0 f0 HM2
  generalize World.setCell w2 ⟨w.heap.size + 1, 0, none⟩ (.string ⟨code.toArray⟩) = w3 at *
  refine (refNum2 r s (r2 q) hs _ HM3.out.rd).mono ?_
  rintro e w4 ⟨rfl, hr1, hg1⟩
  have HM4 := Lib.hid (HM3.out.read hr1 hg1)
  clear hr1 hg1 HM3
  -- LOOPS
  go_upto_block 0 with (fail)
  go_cut [] (fun wx => ∃ v, FI w r s code v (ps q).1 (.slice none 0 0) [] 0 (.slice none 0 0) [] (ps q).2 wx)
  case first =>
    go_wp2_with fail
    go_loopg [5] (numV (r2 q) 2) (fun g i wr => ∃ k v, k + g = (numV (r2 q) 2) ∧ i = .int .i64 (k : Nat) ∧ FI w r s code v (listTo procR k (rawS (r2 q) 2)).1 (.slice none 0 0) [] 0 (.slice none 0 0) [] (listTo procR k (rawS (r2 q) 2)).2 wr)
    case atStart => exact ⟨0, _, by omega, rfl, HM4.out⟩
    case round =>
      clear HM4
      obtain ⟨k, v, hk, rfl, hM⟩ := hrel
      have HM := Lib.hid hM
      have hlk := listTo_len procR k (rawS (r2 q) 2)
      have HSu := Lib.hid (listTo_succ_ok procR k (rawS (r2 q) 2))
      have HBd := Lib.hid (listTo_bad procR k (numV (r2 q) 2) (by omega) (rawS (r2 q) 2))
      have HKn := Lib.hid (show k = (numV (r2 q) 2) → listTo procR k (rawS (r2 q) 2) = ps q from fun e => by rw [e]; exact Hps.out)
      clear hM
      generalize listTo procR k (rawS (r2 q) 2) = L at *
      obtain ⟨l, ⟨s1, bad⟩⟩ := L
      simp only at HM hlk HSu HBd
      obtain ⟨A0, n0, cap0, hv0⟩ := own_sl2 HM.out.o1
      subst hv0
      have c2 : wr.cell? ⟨r, 2, none⟩ = some (.bool bad) := HM.out.rd.c2
      by_cases hlt : k < (numV (r2 q) 2)
      · have hltI : (k : Int) < ((numV (r2 q) 2) : Int) := by omega
        cases bad
        case true =>
          have HE := Lib.hid ((HBd.out rfl).symm.trans Hps.out)
          go_wp2_with fail
          go_meet
          exact ⟨_, by rw [← HE.out]; exact HM.out⟩
        case false =>
          have HE := Lib.hid (HSu.out rfl)
          clear HBd HSu HKn
          have HP := Lib.hid (procR_eq ⟨s1, false⟩)
          go_wp2_with fail
          refine (refNum2 r s ⟨s1, false⟩ hs _ HM.out.rd).mono ?_
          rintro e x0 ⟨rfl, hr1, hg1⟩
          have yn := numV2_lt ⟨s1, false⟩
          generalize numV ⟨s1, false⟩ 2 = n1 at *
          generalize rawS ⟨s1, false⟩ 2 = q1 at *
          have HA := Lib.hid (alloc_below x0 (.cells #[.int .i64 n1, .int .i64 0, .int .i64 0, .int .i64 0, .int .i64 0, .bool false] 90))
          have HX0 := Lib.hid (Box.new x0 #[.int .i64 n1, .int .i64 0, .int .i64 0, .int .i64 0, .int .i64 0, .bool false] 90 (by decide))
          have HR0 := Lib.hid (hr1.grow HA.out)
          have HG0 := Lib.hid (hg1.trans (grown_below HA.out))
          have hp : wr.heap.size ≤ x0.heap.size := hg1.size
          have hpr : x0.heap.size ≠ r := by have := hr1.lt; omega
          have hpb : w.heap.size + 1 < x0.heap.size := by have := HM.out.box.lt; omega
          clear hr1 hg1 HA
          go_wp2_with fail
          generalize x0.alloc (.cells #[.int .i64 n1, .int .i64 0, .int .i64 0, .int .i64 0, .int .i64 0, .bool false] 90) = y0 at *
          generalize x0.heap.size = p at *

          refine (refNum2 r s q1 hs _ HR0.out).mono ?_
          rintro e x1 ⟨rfl, hr1, hg1⟩

          have yn1 := numV2_lt q1
          generalize numV q1 2 = n2 at *
          generalize rawS q1 2 = q2 at *

          have HXa := Lib.hid (HX0.out.other hg1 hpr)
          have c1 : x1.cell? ⟨p, 1, none⟩ = some (.int .i64 0) := (HXa.out.cell 1).trans rfl
          have f1 := HXa.out.frozen 1
          have HX1 := Lib.hid ((HXa.out.set 1 (.int .i64 n2)).to (ds := #[.int .i64 n1, .int .i64 n2, .int .i64 0, .int .i64 0, .int .i64 0, .bool false]) (by simp))
          have HR1 := Lib.hid (hr1.setOther hpr 1 (.int .i64 n2))
          have HG1 := Lib.hid (grown_setNew (HG0.out.trans hg1) hp 1 (.int .i64 n2))
          clear hr1 hg1 HXa HX0 HR0 HG0

          go_wp2_with fail
          clear c1 f1
          generalize World.setCell x1 ⟨p, 1, none⟩ (.int .i64 n2) = y1 at *

          refine (refNum2 r s q2 hs _ HR1.out).mono ?_
          rintro e x2 ⟨rfl, hr1, hg1⟩

          have yn2 := numV2_lt q2
          generalize numV q2 2 = n3 at *
          generalize rawS q2 2 = q3 at *

          have HXa := Lib.hid (HX1.out.other hg1 hpr)
          have c2 : x2.cell? ⟨p, 2, none⟩ = some (.int .i64 0) := (HXa.out.cell 2).trans rfl
          have f2 := HXa.out.frozen 2
          have HX2 := Lib.hid ((HXa.out.set 2 (.int .i64 n3)).to (ds := #[.int .i64 n1, .int .i64 n2, .int .i64 n3, .int .i64 0, .int .i64 0, .bool false]) (by simp))
          have HR2 := Lib.hid (hr1.setOther hpr 2 (.int .i64 n3))
          have HG2 := Lib.hid (grown_setNew (HG1.out.trans hg1) hp 2 (.int .i64 n3))
          clear hr1 hg1 HXa HX1 HR1 HG1

          go_wp2_with fail
          clear c2 f2
          generalize World.setCell x2 ⟨p, 2, none⟩ (.int .i64 n3) = y2 at *

          refine (refNum2 r s q3 hs _ HR2.out).mono ?_
          rintro e x3 ⟨rfl, hr1, hg1⟩

          have yn3 := numV2_lt q3
          generalize numV q3 2 = n4 at *
          generalize rawS q3 2 = q4 at *

          have HXa := Lib.hid (HX2.out.other hg1 hpr)
          have c3 : x3.cell? ⟨p, 3, none⟩ = some (.int .i64 0) := (HXa.out.cell 3).trans rfl
          have f3 := HXa.out.frozen 3
          have HX3 := Lib.hid ((HXa.out.set 3 (.int .i64 n4)).to (ds := #[.int .i64 n1, .int .i64 n2, .int .i64 n3, .int .i64 n4, .int .i64 0, .bool false]) (by simp))
          have HR3 := Lib.hid (hr1.setOther hpr 3 (.int .i64 n4))
          have HG3 := Lib.hid (grown_setNew (HG2.out.trans hg1) hp 3 (.int .i64 n4))
          clear hr1 hg1 HXa HX2 HR2 HG2

          go_wp2_with fail
          clear c3 f3
          generalize World.setCell x3 ⟨p, 3, none⟩ (.int .i64 n4) = y3 at *

          refine (refNum1 r s q4 hs _ HR3.out).mono ?_
          rintro e x4 ⟨rfl, hr1, hg1⟩

          have yn4 := numV1_lt q4
          generalize numV q4 1 = n5 at *
          generalize rawS q4 1 = q5 at *

          have HXa := Lib.hid (HX3.out.other hg1 hpr)
          have c4 : x4.cell? ⟨p, 4, none⟩ = some (.int .i64 0) := (HXa.out.cell 4).trans rfl
          have f4 := HXa.out.frozen 4
          have HX4 := Lib.hid ((HXa.out.set 4 (.int .i64 n5)).to (ds := #[.int .i64 n1, .int .i64 n2, .int .i64 n3, .int .i64 n4, .int .i64 n5, .bool false]) (by simp))
          have HR4 := Lib.hid (hr1.setOther hpr 4 (.int .i64 n5))
          have HG4 := Lib.hid (grown_setNew (HG3.out.trans hg1) hp 4 (.int .i64 n5))
          clear hr1 hg1 HXa HX3 HR3 HG3

          go_wp2_with fail
          clear c4 f4
          generalize World.setCell x4 ⟨p, 4, none⟩ (.int .i64 n5) = y4 at *

          refine (refRdTruth_any r s q5 hs _ HR4.out).mono ?_
          rintro e x5 ⟨rfl, hr1, hg1⟩

          generalize truthV q5 = tf at *
          generalize truthS q5 = q6 at *

          have HXa := Lib.hid (HX4.out.other hg1 hpr)
          have c5 : x5.cell? ⟨p, 5, none⟩ = some (.bool false) := (HXa.out.cell 5).trans rfl
          have f5 := HXa.out.frozen 5
          have HX5 := Lib.hid ((HXa.out.set 5 (.bool tf)).to (ds := #[.int .i64 n1, .int .i64 n2, .int .i64 n3, .int .i64 n4, .int .i64 n5, .bool tf]) (by simp))
          have HR5 := Lib.hid (hr1.setOther hpr 5 (.bool tf))
          have HG5 := Lib.hid (grown_setNew (HG4.out.trans hg1) hp 5 (.bool tf))
          clear hr1 hg1 HXa HX4 HR4 HG4

          go_upto_region 13 with (fail)
          generalize World.setCell x5 ⟨p, 5, none⟩ (.bool tf) = y5 at *
          clear c5 f5
          have HMn := Lib.hid (HM.out.read HR5.out HG5.out)
          have d1 : y5.cell? ⟨w.heap.size + 1, 1, none⟩ = some (.slice A0 n0 cap0) := (HMn.out.box.cell 1).trans rfl
          have c0 : y5.cell? ⟨p, 0, none⟩ = some (.int .i64 n1) := (HX5.out.cell 0).trans rfl
          have c1 : y5.cell? ⟨p, 1, none⟩ = some (.int .i64 n2) := (HX5.out.cell 1).trans rfl
          have c2 : y5.cell? ⟨p, 2, none⟩ = some (.int .i64 n3) := (HX5.out.cell 2).trans rfl
          have c3 : y5.cell? ⟨p, 3, none⟩ = some (.int .i64 n4) := (HX5.out.cell 3).trans rfl
          have c4 : y5.cell? ⟨p, 4, none⟩ = some (.int .i64 n5) := (HX5.out.cell 4).trans rfl
          have c5 : y5.cell? ⟨p, 5, none⟩ = some (.bool tf) := (HX5.out.cell 5).trans rfl

          have HA := Lib.hid (alloc_below y5 (.cells #[.int .i64 n1, .int .i64 n2, .int .i64 n3, .int .i64 n4, .int .i64 n5, .bool tf] 90))
          have HMa := Lib.hid (HMn.out.grow HA.out)
          have hszz : w.heap.size + 2 ≤ y5.heap.size + 1 := by have := HMn.out.box.lt; omega
          clear HA HX5 HR5 HG5 HM
          go_wp2_with (at_builtin; refine wpList_app etProcs rfl _ _ rfl (w.heap.size + 2) _ l.length (l.flatMap cellsP) rfl HMa.out.o1 _ 1 (cellsP ⟨n1, n2, n3, n4, n5, tf⟩) rfl (src_new etProcs _ #[.int .i64 n1, .int .i64 n2, .int .i64 n3, .int .i64 n4, .int .i64 n5, .bool tf] _ 1 1 rfl (by simp [Value.oneCell'])) (by omega) (by unfold maxLen; omega) (by simp; omega) ?_; intro u9 x9 hA9; obtain ⟨A9, n9, c9, hu9⟩ := own_sl2 hA9.own; subst hu9; have HB9 := Lib.hid (HMa.out.box.appB HMa.out.o1 hA9.grown (by omega)); have d9 := (HB9.out.cell 1).trans rfl; have f9 := HB9.out.frozen 1; have HA9 := Lib.hid (HMa.out.push1 hA9); clear hA9)
          go_roundg (gk - 1)
          case measure => omega
          case rel => exact ⟨k + 1, _, by omega, by go_num, by rw [HE.out, HP.out]; exact HA9.out⟩

      · have HE := Lib.hid (HKn.out (by omega))
        have hltI : ¬ (k : Int) < ((numV (r2 q) 2) : Int) := by omega
        go_wp2_with fail
        go_meet
        exact ⟨_, by rw [← HE.out]; exact HM.out⟩
  case rest =>
    obtain ⟨v1, hM⟩ := hcut
    have HMb := Lib.hid hM
    clear hM HM4 Hps
    go_wp2_with fail
    refine (refNum1 r s (ps q).2 hs _ HMb.out.rd).mono ?_
    rintro e w5 ⟨rfl, hr1, hg1⟩
    have HM5 := Lib.hid (HMb.out.read hr1 hg1)
    clear hr1 hg1 HMb

    go_upto_block 2 with (fail)
    go_cut [] (fun wx => ∃ v, FI w r s code v1 (ps q).1 v (is q).1 0 (.slice none 0 0) [] (is q).2 wx)
    case first =>
      go_wp2_with fail
      go_loopg [7] (numV (ps q).2 1) (fun g i wr => ∃ k v, k + g = (numV (ps q).2 1) ∧ i = .int .i64 (k : Nat) ∧ FI w r s code v1 (ps q).1 v (listTo impR k (rawS (ps q).2 1)).1 0 (.slice none 0 0) [] (listTo impR k (rawS (ps q).2 1)).2 wr)
      case atStart => exact ⟨0, _, by omega, rfl, HM5.out⟩
      case round =>
        clear HM5
        obtain ⟨k, v, hk, rfl, hM⟩ := hrel
        have HM := Lib.hid hM
        have hlk := listTo_len impR k (rawS (ps q).2 1)
        have HSu := Lib.hid (listTo_succ_ok impR k (rawS (ps q).2 1))
        have HBd := Lib.hid (listTo_bad impR k (numV (ps q).2 1) (by omega) (rawS (ps q).2 1))
        have HKn := Lib.hid (show k = (numV (ps q).2 1) → listTo impR k (rawS (ps q).2 1) = is q from fun e => by rw [e]; exact His.out)
        clear hM
        generalize listTo impR k (rawS (ps q).2 1) = L at *
        obtain ⟨l, ⟨s1, bad⟩⟩ := L
        simp only at HM hlk HSu HBd
        obtain ⟨A0, n0, cap0, hv0⟩ := own_sl2 HM.out.o2
        subst hv0
        have c2 : wr.cell? ⟨r, 2, none⟩ = some (.bool bad) := HM.out.rd.c2
        by_cases hlt : k < (numV (ps q).2 1)
        · have hltI : (k : Int) < ((numV (ps q).2 1) : Int) := by omega
          cases bad
          case true =>
            have HE := Lib.hid ((HBd.out rfl).symm.trans His.out)
            go_wp2_with fail
            go_meet
            exact ⟨_, by rw [← HE.out]; exact HM.out⟩
          case false =>
            have HE := Lib.hid (HSu.out rfl)
            clear HBd HSu HKn
            have HP := Lib.hid (impR_eq ⟨s1, false⟩)
            go_wp2_with fail
            refine (refNum1 r s ⟨s1, false⟩ hs _ HM.out.rd).mono ?_
            rintro e y5 ⟨rfl, hr1, hg1⟩
            have yn := numV1_lt ⟨s1, false⟩
            have HMn := Lib.hid (HM.out.read hr1 hg1)
            generalize numV ⟨s1, false⟩ 1 = n1 at *
            generalize rawS ⟨s1, false⟩ 1 = q1 at *
            clear hr1 hg1 HM
            have d1 : y5.cell? ⟨w.heap.size + 1, 2, none⟩ = some (.slice A0 n0 cap0) := (HMn.out.box.cell 2).trans rfl
            have HA := Lib.hid (alloc_below y5 (.cells #[.int .i64 n1] 3))
            have HMa := Lib.hid (HMn.out.grow HA.out)
            have hszz : w.heap.size + 2 ≤ y5.heap.size + 1 := by have := HMn.out.box.lt; omega
            clear HA
            go_wp2_with (at_builtin; refine wpList_app etInts rfl _ _ rfl (w.heap.size + 2) _ l.length (l.flatMap cellsI) rfl HMa.out.o2 _ 1 (cellsI (n1 : Int)) rfl (src_new etInts _ #[.int .i64 n1] _ 1 1 rfl (by simp [Value.oneCell'])) (by omega) (by unfold maxLen; omega) (by simp; omega) ?_; intro u9 x9 hA9; obtain ⟨A9, n9, c9, hu9⟩ := own_sl2 hA9.own; subst hu9; have HB9 := Lib.hid (HMa.out.box.appB HMa.out.o2 hA9.grown (by omega)); have d9 := (HB9.out.cell 2).trans rfl; have f9 := HB9.out.frozen 2; have HA9 := Lib.hid (HMa.out.push2 hA9); clear hA9)
            go_roundg (gk - 1)
            case measure => omega
            case rel => exact ⟨k + 1, _, by omega, by go_num, by rw [HE.out, HP.out]; exact HA9.out⟩

        · have HE := Lib.hid (HKn.out (by omega))
          have hltI : ¬ (k : Int) < ((numV (ps q).2 1) : Int) := by omega
          go_wp2_with fail
          go_meet
          exact ⟨_, by rw [← HE.out]; exact HM.out⟩
    case rest =>
      obtain ⟨v2, hM⟩ := hcut
      have HMb := Lib.hid hM
      clear hM HM5 His
      go_wp2_with fail
      refine (refNum2 r s (is q).2 hs _ HMb.out.rd).mono ?_
      rintro e w6 ⟨rfl, hr1, hg1⟩
      rw [Hr7.out] at hr1
      have HM6 := Lib.hid (HMb.out.read hr1 hg1)
      clear hr1 hg1 HMb
      generalize numV (is q).2 2 = dat at *
      have d3 : w6.cell? ⟨w.heap.size + 1, 3, none⟩ = some (.int .i64 0) := (HM6.out.box.cell 3).trans rfl
      have f3 := HM6.out.box.frozen 3
      go_wp2_with fail
      have HM7 := Lib.hid (HM6.out.setd (dat : Int))
      clear d3 f3 HM6
      generalize World.setCell w6 ⟨w.heap.size + 1, 3, none⟩ (.int .i64 dat) = w7 at *
      refine (refNum2 r s (r7 q) hs _ HM7.out.rd).mono ?_
      rintro e w8 ⟨rfl, hr1, hg1⟩
      have HM8 := Lib.hid (HM7.out.read hr1 hg1)
      clear hr1 hg1 HM7

      go_upto_block 4 with (fail)
      go_cut [] (fun wx => ∃ v, FI w r s code v1 (ps q).1 v2 (is q).1 dat v (ts q).1 (ts q).2 wx)
      case first =>
        go_wp2_with fail
        go_loopg [9] (numV (r7 q) 2) (fun g i wr => ∃ k v, k + g = (numV (r7 q) 2) ∧ i = .int .i64 (k : Nat) ∧ FI w r s code v1 (ps q).1 v2 (is q).1 dat v (listTo wordR k (rawS (r7 q) 2)).1 (listTo wordR k (rawS (r7 q) 2)).2 wr)
        case atStart => exact ⟨0, _, by omega, rfl, HM8.out⟩
        case round =>
          clear HM8
          obtain ⟨k, v, hk, rfl, hM⟩ := hrel
          have HM := Lib.hid hM
          have hlk := listTo_len wordR k (rawS (r7 q) 2)
          have HSu := Lib.hid (listTo_succ_ok wordR k (rawS (r7 q) 2))
          have HBd := Lib.hid (listTo_bad wordR k (numV (r7 q) 2) (by omega) (rawS (r7 q) 2))
          have HKn := Lib.hid (show k = (numV (r7 q) 2) → listTo wordR k (rawS (r7 q) 2) = ts q from fun e => by rw [e]; exact Hts.out)
          clear hM
          generalize listTo wordR k (rawS (r7 q) 2) = L at *
          obtain ⟨l, ⟨s1, bad⟩⟩ := L
          simp only at HM hlk HSu HBd
          obtain ⟨A0, n0, cap0, hv0⟩ := own_sl2 HM.out.o3
          subst hv0
          have c2 : wr.cell? ⟨r, 2, none⟩ = some (.bool bad) := HM.out.rd.c2
          by_cases hlt : k < (numV (r7 q) 2)
          · have hltI : (k : Int) < ((numV (r7 q) 2) : Int) := by omega
            cases bad
            case true =>
              have HE := Lib.hid ((HBd.out rfl).symm.trans Hts.out)
              go_wp2_with fail
              go_meet
              exact ⟨_, by rw [← HE.out]; exact HM.out⟩
            case false =>
              have HE := Lib.hid (HSu.out rfl)
              clear HBd HSu HKn
              have HP := Lib.hid (wordR_eq ⟨s1, false⟩)
              go_wp2_with fail
              refine (refNum2 r s ⟨s1, false⟩ hs _ HM.out.rd).mono ?_
              rintro e y5 ⟨rfl, hr1, hg1⟩
              have yn := numV2_lt ⟨s1, false⟩
              have HMn := Lib.hid (HM.out.read hr1 hg1)
              generalize numV ⟨s1, false⟩ 2 = n1 at *
              generalize rawS ⟨s1, false⟩ 2 = q1 at *
              clear hr1 hg1 HM
              have hw : (n1 : Int) % 65536 = (n1 : Int) := by omega
              have d1 : y5.cell? ⟨w.heap.size + 1, 4, none⟩ = some (.slice A0 n0 cap0) := (HMn.out.box.cell 4).trans rfl
              have HA := Lib.hid (alloc_below y5 (.cells #[.int .u16 n1] 50))
              have HMa := Lib.hid (HMn.out.grow HA.out)
              have hszz : w.heap.size + 2 ≤ y5.heap.size + 1 := by have := HMn.out.box.lt; omega
              clear HA
              go_wp2_with (at_builtin; refine wpList_app etWords rfl _ _ rfl (w.heap.size + 2) _ l.length (l.flatMap cellsW) rfl HMa.out.o3 _ 1 (cellsW n1) rfl (src_new etWords _ #[.int .u16 n1] _ 1 1 rfl (by simp [Value.oneCell'])) (by omega) (by unfold maxLen; omega) (by simp; omega) ?_; intro u9 x9 hA9; obtain ⟨A9, n9, c9, hu9⟩ := own_sl2 hA9.own; subst hu9; have HB9 := Lib.hid (HMa.out.box.appB HMa.out.o3 hA9.grown (by omega)); have d9 := (HB9.out.cell 4).trans rfl; have f9 := HB9.out.frozen 4; have HA9 := Lib.hid (HMa.out.push3 hA9); clear hA9)
              go_roundg (gk - 1)
              case measure => omega
              case rel => exact ⟨k + 1, _, by omega, by go_num, by rw [HE.out, HP.out]; exact HA9.out⟩

          · have HE := Lib.hid (HKn.out (by omega))
            have hltI : ¬ (k : Int) < ((numV (r7 q) 2) : Int) := by omega
            go_wp2_with fail
            go_meet
            exact ⟨_, by rw [← HE.out]; exact HM.out⟩
      case rest =>
        obtain ⟨v3, hM⟩ := hcut
        obtain ⟨A1, c1, rfl⟩ := own_slice' hM.o1
        obtain ⟨A2, c2, rfl⟩ := own_slice' hM.o2
        obtain ⟨A3, c3, rfl⟩ := own_slice' hM.o3
        have HMb := Lib.hid hM
        clear hM HM8 Hts Hr2 Hr7
        generalize (ps q).1 = mp at *
        generalize (is q).1 = mi at *
        generalize (ts q).1 = mt at *
        generalize (ts q).2 = q9 at *
        generalize numV q 2 = nn1 at *
        generalize numV (r2 q) 2 = nn2 at *
        generalize numV (ps q).2 1 = nn3 at *
        generalize numV (r7 q) 2 = nn5 at *
        obtain ⟨t9, bad⟩ := q9
        simp only at HSt
        have d2 : wc.cell? ⟨r, 2, none⟩ = some (.bool bad) := HMb.out.rd.c2
        have d3 := HMb.out.rd.f2
        have m0 : wc.cell? ⟨w.heap.size + 1, 0, none⟩ = some (.string ⟨code.toArray⟩) := (HMb.out.box.cell 0).trans rfl
        have z0 : wc.cell? ⟨w.heap.size, 0, none⟩ = some (.string ⟨#[]⟩) := (HMb.out.res.cell 0).trans rfl
        have g0 := HMb.out.res.frozen 0
        have m1 : wc.cell? ⟨w.heap.size + 1, 1, none⟩ = some (.slice A1 mp.length c1) := (HMb.out.box.cell 1).trans rfl
        have z1 : wc.cell? ⟨w.heap.size, 1, none⟩ = some (.slice none 0 0) := (HMb.out.res.cell 1).trans rfl
        have g1 := HMb.out.res.frozen 1
        have m2 : wc.cell? ⟨w.heap.size + 1, 2, none⟩ = some (.slice A2 mi.length c2) := (HMb.out.box.cell 2).trans rfl
        have z2 : wc.cell? ⟨w.heap.size, 2, none⟩ = some (.slice none 0 0) := (HMb.out.res.cell 2).trans rfl
        have g2 := HMb.out.res.frozen 2
        have m3 : wc.cell? ⟨w.heap.size + 1, 3, none⟩ = some (.int .i64 dat) := (HMb.out.box.cell 3).trans rfl
        have z3 : wc.cell? ⟨w.heap.size, 3, none⟩ = some (.int .i64 0) := (HMb.out.res.cell 3).trans rfl
        have g3 := HMb.out.res.frozen 3
        have m4 : wc.cell? ⟨w.heap.size + 1, 4, none⟩ = some (.slice A3 mt.length c3) := (HMb.out.box.cell 4).trans rfl
        have z4 : wc.cell? ⟨w.heap.size, 4, none⟩ = some (.slice none 0 0) := (HMb.out.res.cell 4).trans rfl
        have g4 := HMb.out.res.frozen 4
        cases bad
        case true =>
          have HS2 := Lib.hid (show modS q = ⟨t9, true⟩ by rw [HSt.out]; rfl)
          go_wp2_with fail
          have HF := Lib.hid (HMb.out.fin HMod.out HS2.out HW.out (by omega) (by omega) (by omega) (by omega))
          exact rfmod_ret (HMb.out.res.put5 _ _ _ _ _) rfl HF.out
        case false =>
          go_wp2_with fail
          refine (refMayModule_any ⟨A1, c1, A2, c2, A3, c3⟩ ⟨code, mp, mi, dat, mt⟩ _ (R3.mod (w := w) ⟨own_lower HMb.out.o1 (by omega), own_lower HMb.out.o2 (by omega), own_lower HMb.out.o3 (by omega)⟩ HW.out (by omega) (by omega) (by omega) (by omega))).mono ?_
          rintro e w9 ⟨rfl, hb9⟩
          have HMc := Lib.hid (HMb.out.grow hb9)
          clear hb9 HMb d2 d3 m0 z0 g0 m1 z1 g1 m2 z2 g2 m3 z3 g3 m4 z4 g4
          cases hok : modOkB ⟨code, mp, mi, dat, mt⟩ with
          | true =>
            have HS2 := Lib.hid (show modS q = ⟨t9, false⟩ by rw [HSt.out, HMod.out, hok]; rfl)
            clear hok
            have m0 : w9.cell? ⟨w.heap.size + 1, 0, none⟩ = some (.string ⟨code.toArray⟩) := (HMc.out.box.cell 0).trans rfl
            have z0 : w9.cell? ⟨w.heap.size, 0, none⟩ = some (.string ⟨#[]⟩) := (HMc.out.res.cell 0).trans rfl
            have g0 := HMc.out.res.frozen 0
            have m1 : w9.cell? ⟨w.heap.size + 1, 1, none⟩ = some (.slice A1 mp.length c1) := (HMc.out.box.cell 1).trans rfl
            have z1 : w9.cell? ⟨w.heap.size, 1, none⟩ = some (.slice none 0 0) := (HMc.out.res.cell 1).trans rfl
            have g1 := HMc.out.res.frozen 1
            have m2 : w9.cell? ⟨w.heap.size + 1, 2, none⟩ = some (.slice A2 mi.length c2) := (HMc.out.box.cell 2).trans rfl
            have z2 : w9.cell? ⟨w.heap.size, 2, none⟩ = some (.slice none 0 0) := (HMc.out.res.cell 2).trans rfl
            have g2 := HMc.out.res.frozen 2
            have m3 : w9.cell? ⟨w.heap.size + 1, 3, none⟩ = some (.int .i64 dat) := (HMc.out.box.cell 3).trans rfl
            have z3 : w9.cell? ⟨w.heap.size, 3, none⟩ = some (.int .i64 0) := (HMc.out.res.cell 3).trans rfl
            have g3 := HMc.out.res.frozen 3
            have m4 : w9.cell? ⟨w.heap.size + 1, 4, none⟩ = some (.slice A3 mt.length c3) := (HMc.out.box.cell 4).trans rfl
            have z4 : w9.cell? ⟨w.heap.size, 4, none⟩ = some (.slice none 0 0) := (HMc.out.res.cell 4).trans rfl
            have g4 := HMc.out.res.frozen 4
            go_wp2_with fail
            have HF := Lib.hid (HMc.out.fin HMod.out HS2.out HW.out (by omega) (by omega) (by omega) (by omega))
            exact rfmod_ret (HMc.out.res.put5 _ _ _ _ _) rfl HF.out
          | false =>
            have HS2 := Lib.hid (show modS q = ⟨t9, true⟩ by rw [HSt.out, HMod.out, hok]; rfl)
            clear hok
            have d2 : w9.cell? ⟨r, 2, none⟩ = some (.bool false) := HMc.out.rd.c2
            have d3 := HMc.out.rd.f2
            go_upto_region 29 with (fail)
            have HMd := Lib.hid (HMc.out.bad true)
            generalize World.setCell w9 ⟨r, 2, none⟩ (.bool true) = wd at *
            clear d2 d3
            have m0 : wd.cell? ⟨w.heap.size + 1, 0, none⟩ = some (.string ⟨code.toArray⟩) := (HMd.out.box.cell 0).trans rfl
            have z0 : wd.cell? ⟨w.heap.size, 0, none⟩ = some (.string ⟨#[]⟩) := (HMd.out.res.cell 0).trans rfl
            have g0 := HMd.out.res.frozen 0
            have m1 : wd.cell? ⟨w.heap.size + 1, 1, none⟩ = some (.slice A1 mp.length c1) := (HMd.out.box.cell 1).trans rfl
            have z1 : wd.cell? ⟨w.heap.size, 1, none⟩ = some (.slice none 0 0) := (HMd.out.res.cell 1).trans rfl
            have g1 := HMd.out.res.frozen 1
            have m2 : wd.cell? ⟨w.heap.size + 1, 2, none⟩ = some (.slice A2 mi.length c2) := (HMd.out.box.cell 2).trans rfl
            have z2 : wd.cell? ⟨w.heap.size, 2, none⟩ = some (.slice none 0 0) := (HMd.out.res.cell 2).trans rfl
            have g2 := HMd.out.res.frozen 2
            have m3 : wd.cell? ⟨w.heap.size + 1, 3, none⟩ = some (.int .i64 dat) := (HMd.out.box.cell 3).trans rfl
            have z3 : wd.cell? ⟨w.heap.size, 3, none⟩ = some (.int .i64 0) := (HMd.out.res.cell 3).trans rfl
            have g3 := HMd.out.res.frozen 3
            have m4 : wd.cell? ⟨w.heap.size + 1, 4, none⟩ = some (.slice A3 mt.length c3) := (HMd.out.box.cell 4).trans rfl
            have z4 : wd.cell? ⟨w.heap.size, 4, none⟩ = some (.slice none 0 0) := (HMd.out.res.cell 4).trans rfl
            have g4 := HMd.out.res.frozen 4
            go_wp2_with fail
            have HF := Lib.hid (HMd.out.fin HMod.out HS2.out HW.out (by omega) (by omega) (by omega) (by omega))
            exact rfmod_ret (HMd.out.res.put5 _ _ _ _ _) rfl HF.out
end Go.Proofs.Ytckbfocbainlpaa
