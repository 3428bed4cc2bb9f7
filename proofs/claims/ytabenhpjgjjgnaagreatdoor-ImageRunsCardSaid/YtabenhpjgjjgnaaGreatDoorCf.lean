/- obj. The document's number, truth, packed, Pack. obj. Condition: what lies in memory can lie there; what each theorem says. -/
import Derived.Test.YtabenhpjgjjgnaaGreatDoorCe
import Derived.Test.YtabenhpjgjjgnaaGreatDoorCd
import Derived.Laws.Concat
import Derived.Deep.RegionHeld3
import Derived.Deep.DeepCutAuto
import Derived.Lib.ConvBytes
/- obj. -/
namespace Go.Proofs.YtabenhpjgjjgnaaGreatDoor
open Go.RowKit
set_option maxRecDepth 100000
theorem number_int (x : Int) (m : Nat) (h0 : 0 ≤ x) (hn : x ≤ 9223372036854775807) (hm : m ≤ 8) (w : World) :
 Calls Tryz.prog 191 #[.int .i64 x, .int .i64 m] w fun e w' => e = .returned (.string ⟨(beN x.toNat m).toArray⟩) ∧ Below w.heap.size w w' := by
 obtain ⟨n, rfl⟩ : ∃ n : Nat, x = n := ⟨x.toNat, by omega⟩
 exact number_any n m (by omega) hm w
theorem number2 (x : Int) (h0 : 0 ≤ x) (hn : x ≤ 9223372036854775807) (w : World) :
 Calls Tryz.prog 191 #[.int .i64 x, .int .i64 2] w fun e w' => e = .returned (.string ⟨(beN x.toNat 2).toArray⟩) ∧ Below w.heap.size w w' := number_int x 2 h0 hn (by omega) w
theorem number1 (x : Int) (h0 : 0 ≤ x) (hn : x ≤ 9223372036854775807) (w : World) :
 Calls Tryz.prog 191 #[.int .i64 x, .int .i64 1] w fun e w' => e = .returned (.string ⟨(beN x.toNat 1).toArray⟩) ∧ Below w.heap.size w w' := number_int x 1 h0 hn (by omega) w
theorem number2n (n : Nat) (hn : n ≤ 9223372036854775807) (w : World) :
 Calls Tryz.prog 191 #[.int .i64 n, .int .i64 2] w fun e w' => e = .returned (.string ⟨(beN n 2).toArray⟩) ∧ Below w.heap.size w w' := number_any n 2 hn (by omega) w
theorem number1n (n : Nat) (hn : n ≤ 9223372036854775807) (w : World) :
 Calls Tryz.prog 191 #[.int .i64 n, .int .i64 1] w fun e w' => e = .returned (.string ⟨(beN n 1).toArray⟩) ∧ Below w.heap.size w w' := number_any n 1 hn (by omega) w
theorem addS (a b : List UInt8) (h : a.length + b.length ≤ 9223372036854775807) : ∀ w : World, (Op.stringOp .add ⟨a.toArray⟩ ⟨b.toArray⟩).run Tryz.prog w = .ok (.string ⟨(a ++ b).toArray⟩) w := fun w => by
 rw [run_string_add_sum w _ _ (by simpa [ByteArray.size] using h), bytes_app]
theorem numberW2 (n : Nat) (hn : n ≤ 65535) (w : World) :
 Calls Tryz.prog 193 #[.int .u16 n, .int .i64 2] w fun e w' => e = .returned (.string ⟨(beN n 2).toArray⟩) ∧ Below w.heap.size w w' := numberW_any n 2 hn (by omega) w
def pk1 (m : ModL) : List UInt8 := beN m.code.length 2 ++ m.code ++ beN m.procs.length 2
def pk2 (m : ModL) (k : Nat) : List UInt8 := pk1 m ++ (m.procs.take k).flatMap procN
def pk3 (m : ModL) : List UInt8 := pk2 m m.procs.length ++ beN m.imports.length 1
def pk4 (m : ModL) (k : Nat) : List UInt8 := pk3 m ++ (m.imports.take k).flatMap impN
def pk5 (m : ModL) : List UInt8 := pk4 m m.imports.length ++ (beN m.data.toNat 2 ++ beN m.init.length 2)
def pk6 (m : ModL) (k : Nat) : List UInt8 := pk5 m ++ (m.init.take k).flatMap wordN
theorem pk6_full (m : ModL) : pk6 m m.init.length = packL m := by
 unfold pk6 pk5 pk4 pk3 pk2 pk1 packL; simp only [List.take_length]
theorem flat_take {α : Type} (f : α → List UInt8) (l : List α) (k : Nat) (d : α) (hk : k < l.length) : (l.take (k + 1)).flatMap f = (l.take k).flatMap f ++ f (l.getD k d) := by
 rw [List.take_succ_eq_append_getElem hk, List.flatMap_append]
 simp [List.getD_eq_getElem?_getD, hk]
theorem flat_len {α : Type} (f : α → List UInt8) (c : Nat) (h : ∀ x, (f x).length = c) (l : List α) : (l.flatMap f).length = l.length * c := by
 induction l with
 | nil => simp
 | cons x l ih => rw [List.flatMap_cons, List.length_append, h, ih, List.length_cons, Nat.add_mul]; omega
theorem truthL_length (b : Bool) : (truthL b).length = 1 := by cases b <;> rfl
theorem procN_length (p : ProcL) : (procN p).length = 10 := by unfold procN; simp [beN_length, truthL_length]
structure OkM (m : ModL) : Prop where
 code : m.code.length ≤ 65535
 procs1 : 1 ≤ m.procs.length
 procs : m.procs.length ≤ 1024
 imports : m.imports.length ≤ 255
 data0 : 0 ≤ m.data
 data : m.data ≤ 65535
 init : m.init.length ≤ 65535
 imp : ∀ x ∈ m.imports, 0 ≤ x ∧ x ≤ 63
 proc : ∀ p ∈ m.procs, (0 ≤ p.at_ ∧ p.at_ ≤ 65535) ∧ (0 ≤ p.params ∧ p.params ≤ 65535) ∧ (0 ≤ p.locals ∧ p.locals ≤ 65535) ∧ (0 ≤ p.depth ∧ p.depth ≤ 65535) ∧ (1 ≤ p.level ∧ p.level ≤ 16)
theorem withinB_iff (n lo hi : Int) : withinB n lo hi = true ↔ lo ≤ n ∧ n ≤ hi := by unfold withinB; simp
theorem okM_of {m : ModL} (h : modOkB m = true) : OkM m := by
 unfold modOkB at h
 simp only [Bool.and_eq_true, Bool.not_eq_true', decide_eq_false_iff_not] at h
 obtain ⟨⟨h1, h2⟩, h0⟩ := h
 unfold checkB at h0
 simp only [Bool.and_eq_true] at h0
 have h9 := List.all_eq_true.1 h0.1.1.2 (noImp m) (List.mem_singleton.2 rfl)
 unfold modB at h9
 simp only [Bool.and_eq_true] at h9
 obtain ⟨⟨⟨h3, h4⟩, _⟩, _⟩ := h9
 unfold headB noImp at h3
 simp only [Bool.and_eq_true, Bool.not_eq_true', decide_eq_false_iff_not, withinB_iff] at h3
 obtain ⟨⟨⟨a1, a2⟩, a3⟩, a4⟩ := h3
 refine ⟨by omega, by omega, by omega, by omega, by omega, by omega, by omega, fun x hx => ?_, fun p hp => ?_⟩
 ·have := List.all_eq_true.1 h2 x hx
  rw [withinB_iff] at this; omega
 ·have := List.all_eq_true.1 h4 p hp
  unfold mayB noImp at this
  simp only [Bool.and_eq_true, withinB_iff] at this
  omega
theorem pk1_len {m : ModL} (h : OkM m) : (pk1 m).length ≤ 65539 := by unfold pk1; simp [beN_length]; have := h.code; omega
theorem pk2_len {m : ModL} (h : OkM m) (k : Nat) : (pk2 m k).length ≤ 75779 := by
 unfold pk2; rw [List.length_append, flat_len _ 10 procN_length, List.length_take]; have := pk1_len h; have := h.procs; omega
theorem pk4_len {m : ModL} (h : OkM m) (k : Nat) : (pk4 m k).length ≤ 76035 := by
 unfold pk4 pk3; rw [List.length_append, List.length_append, flat_len impN 1 (fun x => beN_length _ _), List.length_take, beN_length]; have := pk2_len h m.procs.length; have := h.imports; omega
theorem pk6_len {m : ModL} (h : OkM m) (k : Nat) : (pk6 m k).length ≤ 207109 := by
 unfold pk6 pk5; rw [List.length_append, List.length_append, List.length_append, flat_len wordN 2 (fun x => beN_length _ _), List.length_take, beN_length, beN_length]; have := pk4_len h m.imports.length; have := h.init; omega
theorem packL_len {m : ModL} (h : OkM m) : (packL m).length ≤ 207109 := by rw [← pk6_full]; exact pk6_len h _
structure PInv (w : World) (s : MS) (m : ModL) (b : Nat) (W : World) : Prop where
 box : Box w.heap.size (modCells s m) 68 W
 old : Below w.heap.size w W
 lt : w.heap.size < b
theorem PInv.grow {w : World} {s : MS} {m : ModL} {b : Nat} {W W' : World} (h : PInv w s m b W) (hb : Below W.heap.size W W') : PInv w s m b W' :=
 ⟨h.box.grow hb, h.old.trans (hb.mono (Nat.le_of_lt h.box.lt)), h.lt⟩
theorem PInv.wrote {w : World} {s : MS} {m : ModL} {b : Nat} {W W' : World} (h : PInv w s m b W) (hb : Wrote b W W') : PInv w s m b W' :=
 ⟨h.box.later hb.below h.lt, h.old.trans (hb.below.mono (Nat.le_of_lt h.lt)), h.lt⟩
theorem PInv.c0 {w : World} {s : MS} {m : ModL} {b : Nat} {W : World} (h : PInv w s m b W) : W.cell? ⟨w.heap.size, 0, none⟩ = some (.string ⟨m.code.toArray⟩) := (h.box.cell 0).trans rfl
theorem PInv.c1 {w : World} {s : MS} {m : ModL} {b : Nat} {W : World} (h : PInv w s m b W) : W.cell? ⟨w.heap.size, 1, none⟩ = some (.slice s.A1 m.procs.length s.c1) := (h.box.cell 1).trans rfl
theorem PInv.c2 {w : World} {s : MS} {m : ModL} {b : Nat} {W : World} (h : PInv w s m b W) : W.cell? ⟨w.heap.size, 2, none⟩ = some (.slice s.A2 m.imports.length s.c2) := (h.box.cell 2).trans rfl
theorem PInv.c3 {w : World} {s : MS} {m : ModL} {b : Nat} {W : World} (h : PInv w s m b W) : W.cell? ⟨w.heap.size, 3, none⟩ = some (.int .i64 m.data) := (h.box.cell 3).trans rfl
theorem PInv.c4 {w : World} {s : MS} {m : ModL} {b : Nat} {W : World} (h : PInv w s m b W) : W.cell? ⟨w.heap.size, 4, none⟩ = some (.slice s.A3 m.init.length s.c3) := (h.box.cell 4).trans rfl
def procCells (p : ProcL) : Array Value := #[.int .i64 p.at_, .int .i64 p.params, .int .i64 p.locals, .int .i64 p.depth, .int .i64 p.level, .bool p.fn]
theorem procBox {q : Nat} {p : ProcL} {W : World} (h : Box q (procCells p) 113 W) : W.cell? ⟨q, 0, none⟩ = some (.int .i64 p.at_) ∧ W.cell? ⟨q, 1, none⟩ = some (.int .i64 p.params) ∧ W.cell? ⟨q, 2, none⟩ = some (.int .i64 p.locals) ∧ W.cell? ⟨q, 3, none⟩ = some (.int .i64 p.depth) ∧ W.cell? ⟨q, 4, none⟩ = some (.int .i64 p.level) ∧ W.cell? ⟨q, 5, none⟩ = some (.bool p.fn) :=
 ⟨(h.cell 0).trans rfl, (h.cell 1).trans rfl, (h.cell 2).trans rfl, (h.cell 3).trans rfl, (h.cell 4).trans rfl, (h.cell 5).trans rfl⟩
def PackEnd (w : World) (ok : Bool) (l : List UInt8) (e : Ending) (w' : World) : Prop := e = .returned (.tuple #[.string ⟨l.toArray⟩, .int .i64 (errArg ok)]) ∧ Below w.heap.size w w'
theorem packEnd_of {w w' : World} {ok ok' : Bool} {l l' : List UInt8} {e : Ending} (hl : l' = l) (ho : ok' = ok) (he : e = .returned (.tuple #[.string ⟨l'.toArray⟩, .int .i64 (errArg ok')])) (hb : Below w.heap.size w w') : PackEnd w ok l e w' := ⟨by rw [he, hl, ho], hb⟩
def packR (m : ModL) : List UInt8 := if modOkB m then packL m else []
set_option maxHeartbeats 4000000 in
theorem pack_any (s : MS) (m : ModL) (w : World) (hI : ModIn w s m) : Calls Tryz.prog 105 #[modV s m] w (PackEnd w (modOkB m) (packR m)) := by
 have hil := hI.imports_le
 have hpl := hI.procs_le
 have hnl := hI.init_le
 have hcl := hI.code_le
 have HW := Lib.hid (alloc_below w (.cells #[.string ⟨m.code.toArray⟩, .slice s.A1 m.procs.length s.c1, .slice s.A2 m.imports.length s.c2, .int .i64 m.data, .slice s.A3 m.init.length s.c3] 68))
 have HI := Lib.hid hI
 clear hI
 unfold modV
 go_enter Tryz.func105, Tryz.ntmps105
 go_wp2_with fail
 refine (objModule_any s m _ (HI.out.later HW.out (Nat.le_refl _))).mono ?_
 rintro e w1 ⟨rfl, hb1⟩
 have HB1 := Lib.hid ((box_below hb1).1)
 cases hq : modOkB m
 ·go_wp2_with fail
  go_ret2
  exact ⟨by unfold packR; rw [hq]; rfl, HB1.out⟩
 have HX := Lib.hid ((Box.new w (modCells s m) 68 (by decide)).grow hb1)
 have HR := Lib.hid (show packR m = packL m by unfold packR; rw [hq]; rfl)
 have HOk := Lib.hid (okM_of hq)
 have hk1 := HOk.out.code
 have hk2 := HOk.out.procs
 have hk3 := HOk.out.imports
 have hk4 := HOk.out.data0
 have hk5 := HOk.out.data
 have hk6 := HOk.out.init
 have HLT := Lib.hid (box_below hb1).2
 have HQ := Lib.hid hq
 clear hq hb1
 go_wp2_with fail
 have HP := Lib.hid (show PInv w s m w1.heap.size (w1.alloc (.cells #[.pointer none, .slice none 0 0] 147)) from ⟨HX.out.grow (alloc_below _ _), HB1.out.trans ((alloc_below _ _).mono (Nat.le_of_lt HLT.out)), HLT.out⟩)
 have HD := Lib.hid (Bld.new w1)
 generalize w1.alloc (.cells #[.pointer none, .slice none 0 0] 147) = w2 at *
 generalize w1.heap.size = b at *
 clear HB1 HLT HX
 have P2 := HP.out.grow (drew_below w2)
 have D2 := HD.out.later (drew_below w2)
 have p0 := HP.out.c0
 have p1 := HP.out.c1
 have HL1 := Lib.hid (pk1_len HOk.out)
 have a1 := addS (beN m.code.length 2) m.code (by rw [beN_length]; omega)
 have a2 := addS (beN m.code.length 2 ++ m.code) (beN m.procs.length 2) (by rw [List.length_append, beN_length, beN_length]; omega)
 go_cut [] (fun wx => PInv w s m b wx ∧ Bld b (pk1 m) wx)
 case first =>
  go_region_held3 (fun W => W.cell? ⟨w.heap.size, 0, none⟩ = some (.string ⟨m.code.toArray⟩) ∧ W.cell? ⟨w.heap.size, 1, none⟩ = some (.slice s.A1 m.procs.length s.c1)) (exact ⟨PInv.c0 (b := b) (by assumption), PInv.c1 (b := b) (by assumption)⟩) (first
   | (go_at_call 191
      refine (number2n _ (by omega) _).mono ?_
      rintro e w6 ⟨rfl, hb6⟩
      have D6 := Bld.later (b := b) (l := []) (by assumption) hb6
      have P6 := PInv.grow (w := w) (s := s) (m := m) (b := b) (by assumption) hb6)
   | (go_at_call 106
      refine (Bld.writes (b := b) (l := []) (pk1 m) (by assumption) (by have := HL1.out; simp; omega)).mono ?_
      rintro e w7 ⟨rfl, D7, hw7⟩
      have P7 := PInv.wrote (w := w) (s := s) (m := m) (b := b) (by assumption) hw7))
  all_goals (go_wp2_with fail; go_meet; exact ⟨P7, D7⟩)
 case rest =>
  obtain ⟨hP, hD⟩ := hcut
  have HP3 := Lib.hid hP
  have HD3 := Lib.hid hD
  have q1 := hP.c1
  clear hP hD P2 D2 p0 p1 HL1 a1 a2 HP HD
  go_wp2_with fail
  clear q1
  go_loopg [30] (m.procs.length) (fun g i wr => ∃ k : Nat, k + g = m.procs.length ∧ i = .int .i64 k ∧ PInv w s m b wr ∧ Bld b (pk2 m k) wr)
  case atStart => exact ⟨0, by omega, rfl, HP3.out, by have := HD3.out; simpa [pk2] using this⟩
  case round =>
   clear HP3 HD3
   obtain ⟨k, hk, rfl, hP, hD⟩ := hrel
   have HP := Lib.hid hP
   have HD := Lib.hid hD
   by_cases hlt : k < m.procs.length
   ·obtain ⟨bb, off, hA1, hbl, hC⟩ := Each.at_ (HI.out.procs.later hP.old (Nat.le_refl _)) hlt
    have HF := Lib.hid (show pk2 m (k + 1) = pk2 m k ++ procN (m.procs.getD k default) by unfold pk2; rw [flat_take procN m.procs k default hlt, List.append_assoc])
    have HL := Lib.hid (pk2_len HOk.out (k + 1))
    have hR := HOk.out.proc (m.procs.getD k default) (by rw [List.getD_eq_getElem?_getD, List.getElem?_eq_getElem hlt]; exact List.getElem_mem hlt)
    clear hP hD
    generalize m.procs.getD k default = p at *
    obtain ⟨c0, c1, c2, c3, c4, c5⟩ := hC
    obtain ⟨A1, cc1, A2, cc2, A3, cc3⟩ := s
    simp only at hA1 ⊢
    subst hA1
    have hkI : (k : Int) < (m.procs.length : Int) := by omega
    go_wp2_with fail
    have X0 := Lib.hid (Box.new wr #[.int .i64 p.at_, .int .i64 p.params, .int .i64 p.locals, .int .i64 p.depth, .int .i64 p.level, .bool p.fn] 113 (by decide))
    have P0 := Lib.hid (HP.out.grow (alloc_below wr (.cells #[.int .i64 p.at_, .int .i64 p.params, .int .i64 p.locals, .int .i64 p.depth, .int .i64 p.level, .bool p.fn] 113)))
    have D0 := Lib.hid (HD.out.later (alloc_below wr (.cells #[.int .i64 p.at_, .int .i64 p.params, .int .i64 p.locals, .int .i64 p.depth, .int .i64 p.level, .bool p.fn] 113)))
    have hlb := HD.out.lt
    have hne : wr.heap.size ≠ b := by omega
    have hbw : b < wr.heap.size := HD.out.lt
    clear c0 c1 c2 c3 c4 c5 HP HD
    generalize wr.alloc (.cells #[.int .i64 p.at_, .int .i64 p.params, .int .i64 p.locals, .int .i64 p.depth, .int .i64 p.level, .bool p.fn] 113) = w2 at *
    generalize wr.heap.size = q at *
    have X1 : Box q (procCells p) 113 w2.drew := X0.out.grow (drew_below w2)
    have P1 := P0.out.grow (drew_below w2)
    have D1 := D0.out.later (drew_below w2)
    have e0 : w2.cell? ⟨q, 0, none⟩ = some (.int .i64 p.at_) := X0.out.cell 0
    have e1 : w2.cell? ⟨q, 1, none⟩ = some (.int .i64 p.params) := X0.out.cell 1
    have e2 : w2.cell? ⟨q, 2, none⟩ = some (.int .i64 p.locals) := X0.out.cell 2
    have e3 : w2.cell? ⟨q, 3, none⟩ = some (.int .i64 p.depth) := X0.out.cell 3
    have e4 : w2.cell? ⟨q, 4, none⟩ = some (.int .i64 p.level) := X0.out.cell 4
    have e5 : w2.cell? ⟨q, 5, none⟩ = some (.bool p.fn) := X0.out.cell 5
    have a1 := addS (beN p.at_.toNat 2) (beN p.params.toNat 2) (by simp [beN_length])
    have a2 := addS (beN p.at_.toNat 2 ++ beN p.params.toNat 2) (beN p.locals.toNat 2) (by simp [beN_length])
    have a3 := addS (beN p.at_.toNat 2 ++ (beN p.params.toNat 2 ++ beN p.locals.toNat 2)) (beN p.depth.toNat 2) (by simp [beN_length, truthL_length])
    have a4 := addS (beN p.at_.toNat 2 ++ (beN p.params.toNat 2 ++ (beN p.locals.toNat 2 ++ beN p.depth.toNat 2))) (beN p.level.toNat 1) (by simp [beN_length, truthL_length])
    have a5 := addS (beN p.at_.toNat 2 ++ (beN p.params.toNat 2 ++ (beN p.locals.toNat 2 ++ (beN p.depth.toNat 2 ++ beN p.level.toNat 1)))) (truthL p.fn) (by simp [beN_length, truthL_length])
    go_region_held3 (fun W => W.cell? ⟨q, 0, none⟩ = some (.int .i64 p.at_) ∧ W.cell? ⟨q, 1, none⟩ = some (.int .i64 p.params) ∧ W.cell? ⟨q, 2, none⟩ = some (.int .i64 p.locals) ∧ W.cell? ⟨q, 3, none⟩ = some (.int .i64 p.depth) ∧ W.cell? ⟨q, 4, none⟩ = some (.int .i64 p.level) ∧ W.cell? ⟨q, 5, none⟩ = some (.bool p.fn)) (exact procBox (by assumption)) (first
     | (go_at_call 191
        first | (with_reducible refine (number2 _ ?_ ?_ _).mono ?_) | (with_reducible refine (number1 _ ?_ ?_ _).mono ?_)
        ·omega
        ·omega
        rintro e w6 ⟨rfl, hb6⟩
        have D6 := Bld.later (b := b) (l := pk2 m k) (by assumption) hb6
        have X6 := Box.grow (k := q) (cs := procCells p) (T := 113) (by assumption) hb6
        have P6 := PInv.grow (w := w) (s := ⟨some ⟨bb, off, none⟩, cc1, A2, cc2, A3, cc3⟩) (m := m) (b := b) (by assumption) hb6)
     | (go_at_call 192
        refine (truth_any _ _).mono ?_
        rintro e w6 ⟨rfl, hb6⟩
        have D6 := Bld.later (b := b) (l := pk2 m k) (by assumption) hb6
        have X6 := Box.grow (k := q) (cs := procCells p) (T := 113) (by assumption) hb6
        have P6 := PInv.grow (w := w) (s := ⟨some ⟨bb, off, none⟩, cc1, A2, cc2, A3, cc3⟩) (m := m) (b := b) (by assumption) hb6)
     | (go_at_call 106
        refine (Bld.writes (b := b) (l := pk2 m k) (procN p) (by assumption) (by have := HL.out; rw [HF.out, List.length_append] at this; omega)).mono ?_
        rintro e w7 ⟨rfl, D7, hw7⟩
        have X7 := Box.wrote (k := q) (cs := procCells p) (T := 113) (b := b) (by assumption) hw7 hne
        have P7 := PInv.wrote (w := w) (s := ⟨some ⟨bb, off, none⟩, cc1, A2, cc2, A3, cc3⟩) (m := m) (b := b) (by assumption) hw7))
    have HP := Lib.hid P7
    have HD := Lib.hid D7
    go_wp2_with fail
    go_roundg (gk - 1)
    case measure => omega
    case rel => exact ⟨k + 1, by omega, by go_num, HP.out, by rw [HF.out]; exact HD.out⟩
   ·obtain rfl : k = m.procs.length := by omega
    have q2 := hP.c2
    have HL := Lib.hid (pk4_len HOk.out 0)
    clear hP hD
    go_wp2_with fail
    refine (number1n _ (by omega) _).mono ?_
    rintro e w5 ⟨rfl, hb5⟩
    have HP5 := Lib.hid (HP.out.grow hb5)
    have HD5 := Lib.hid (HD.out.later hb5)
    clear hb5 q2 HP HD
    go_wp2_with fail
    refine (Bld.writes (beN m.imports.length 1) HD5.out (by have := HL.out; unfold pk4 pk3 at this; simp only [List.length_append] at this; omega)).mono ?_
    rintro e w6 ⟨rfl, hd6, hw6⟩
    have HP6 := Lib.hid (HP5.out.wrote hw6)
    have HD6 := Lib.hid hd6
    have q2 := HP6.out.c2
    clear hd6 hw6 HP5 HD5
    go_wp2_with fail
    clear q2
    go_loopg [67] (m.imports.length) (fun g i wr => ∃ k : Nat, k + g = m.imports.length ∧ i = .int .i64 k ∧ PInv w s m b wr ∧ Bld b (pk4 m k) wr)
    case atStart => exact ⟨0, by omega, rfl, HP6.out, by have := HD6.out; simpa [pk4, pk3] using this⟩
    case round =>
     clear HP6 HD6
     obtain ⟨k, hk, rfl, hP, hD⟩ := hrel
     have HP := Lib.hid hP
     have HD := Lib.hid hD
     by_cases hlt : k < m.imports.length
     ·obtain ⟨bb, off, hA2, hbl, c0⟩ := Each.at_ (HI.out.imports.later hP.old (Nat.le_refl _)) hlt
      have HF := Lib.hid (show pk4 m (k + 1) = pk4 m k ++ impN (m.imports.getD k 0) by unfold pk4; rw [flat_take impN m.imports k 0 hlt, List.append_assoc])
      have HL := Lib.hid (pk4_len HOk.out (k + 1))
      have hR := HOk.out.imp (m.imports.getD k 0) (by rw [List.getD_eq_getElem?_getD, List.getElem?_eq_getElem hlt]; exact List.getElem_mem hlt)
      clear hP hD
      generalize m.imports.getD k 0 = x at *
      obtain ⟨A1, cc1, A2, cc2, A3, cc3⟩ := s
      simp only at hA2 ⊢
      subst hA2
      have hkI : (k : Int) < (m.imports.length : Int) := by omega
      rw [Nat.mul_one] at c0
      go_wp2_with fail
      refine (number1 x (by omega) (by omega) _).mono ?_
      rintro e w5 ⟨rfl, hb5⟩
      have HP5 := Lib.hid (HP.out.grow hb5)
      have HD5 := Lib.hid (HD.out.later hb5)
      clear hb5 c0 HP HD
      go_wp2_with fail
      refine (Bld.writes (impN x) HD5.out (by have := HL.out; rw [HF.out, List.length_append] at this; omega)).mono ?_
      rintro e w6 ⟨rfl, hd6, hw6⟩
      have HP6 := Lib.hid (HP5.out.wrote hw6)
      have HD6 := Lib.hid hd6
      clear hd6 hw6 HP5 HD5
      go_wp2_with fail
      go_roundg (gk - 1)
      case measure => omega
      case rel => exact ⟨k + 1, by omega, by go_num, HP6.out, by rw [HF.out]; exact HD6.out⟩
     ·obtain rfl : k = m.imports.length := by omega
      have p3 := hP.c3
      have p4 := hP.c4
      have HL := Lib.hid (pk6_len HOk.out 0)
      clear hP hD
      rename World => w2
      have P2 := HP.out.grow (drew_below w2)
      have D2 := HD.out.later (drew_below w2)
      have a1 := addS (beN m.data.toNat 2) (beN m.init.length 2) (by simp [beN_length])
      go_upto_region 16 with (fail)
      go_cut [] (fun wx => PInv w s m b wx ∧ Bld b (pk5 m) wx)
      case first =>
       go_region_held3 (fun W => W.cell? ⟨w.heap.size, 3, none⟩ = some (.int .i64 m.data) ∧ W.cell? ⟨w.heap.size, 4, none⟩ = some (.slice s.A3 m.init.length s.c3)) (exact ⟨PInv.c3 (b := b) (by assumption), PInv.c4 (b := b) (by assumption)⟩) (first
        | (go_at_call 191
           first | (with_reducible refine (number2n _ ?_ _).mono ?_; (focus omega)) | (with_reducible refine (number2 _ ?_ ?_ _).mono ?_; (focus omega); (focus omega))
           rintro e w6 ⟨rfl, hb6⟩
           have D6 := Bld.later (b := b) (l := pk4 m m.imports.length) (by assumption) hb6
           have P6 := PInv.grow (w := w) (s := s) (m := m) (b := b) (by assumption) hb6)
        | (go_at_call 106
           refine (Bld.writes (b := b) (l := pk4 m m.imports.length) (beN m.data.toNat 2 ++ beN m.init.length 2) (by assumption) (by have := HL.out; unfold pk6 pk5 at this; simp only [List.length_append] at this ⊢; omega)).mono ?_
           rintro e w7 ⟨rfl, D7, hw7⟩
           have P7 := PInv.wrote (w := w) (s := s) (m := m) (b := b) (by assumption) hw7))
       all_goals (go_wp2_with fail; go_meet; exact ⟨P7, D7⟩)
      case rest =>
       obtain ⟨hP, hD⟩ := hcut
       have HP3 := Lib.hid hP
       have HD3 := Lib.hid hD
       have q4 := hP.c4
       clear hP hD P2 D2 p3 p4 a1 HP HD
       go_wp2_with fail
       clear q4
       go_loopg [87] (m.init.length) (fun g i wr => ∃ k : Nat, k + g = m.init.length ∧ i = .int .i64 k ∧ PInv w s m b wr ∧ Bld b (pk6 m k) wr)
       case atStart => exact ⟨0, by omega, rfl, HP3.out, by have := HD3.out; simpa [pk6] using this⟩
       case round =>
        clear HP3 HD3
        obtain ⟨k, hk, rfl, hP, hD⟩ := hrel
        have HP := Lib.hid hP
        have HD := Lib.hid hD
        by_cases hlt : k < m.init.length
        ·obtain ⟨bb, off, hA3, hbl, c0, hR⟩ := Each.at_ (HI.out.init.later hP.old (Nat.le_refl _)) hlt
         have HF := Lib.hid (show pk6 m (k + 1) = pk6 m k ++ wordN (m.init.getD k 0) by unfold pk6; rw [flat_take wordN m.init k 0 hlt, List.append_assoc])
         have HL := Lib.hid (pk6_len HOk.out (k + 1))
         clear hP hD
         generalize m.init.getD k 0 = x at *
         obtain ⟨A1, cc1, A2, cc2, A3, cc3⟩ := s
         simp only at hA3 ⊢
         subst hA3
         have hkI : (k : Int) < (m.init.length : Int) := by omega
         rw [Nat.mul_one] at c0
         go_wp2_with fail
         refine (numberW2 x (by omega) _).mono ?_
         rintro e w5 ⟨rfl, hb5⟩
         have HP5 := Lib.hid (HP.out.grow hb5)
         have HD5 := Lib.hid (HD.out.later hb5)
         clear hb5 c0 HP HD
         go_wp2_with fail
         refine (Bld.writes (wordN x) HD5.out (by have := HL.out; rw [HF.out, List.length_append] at this; omega)).mono ?_
         rintro e w6 ⟨rfl, hd6, hw6⟩
         have HP6 := Lib.hid (HP5.out.wrote hw6)
         have HD6 := Lib.hid hd6
         clear hd6 hw6 HP5 HD5
         go_wp2_with fail
         go_roundg (gk - 1)
         case measure => omega
         case rel => exact ⟨k + 1, by omega, by go_num, HP6.out, by rw [HF.out]; exact HD6.out⟩
        ·obtain rfl : k = m.init.length := by omega
         rw [pk6_full] at HD
         clear hP hD
         go_wp2_with fail
         refine HD.out.string.mono ?_
         rintro e w5 ⟨rfl, hb5⟩
         have HB5 := Lib.hid (HP.out.old.trans (hb5.mono (Nat.le_of_lt HP.out.lt)))
         clear hb5
         go_wp2_with fail
         go_ret2
         exact packEnd_of HR.out.symm HQ.out.symm rfl HB5.out
end Go.Proofs.YtabenhpjgjjgnaaGreatDoor
/- The document's number, truth, packed, Pack. -/
namespace Go.Proofs.YtabenhpjgjjgnaaGreatDoor
open Go.RowKit
set_option maxRecDepth 100000
theorem Box.app {k : Nat} {cs : Array Value} {T : TypeId} {W W' : World} {B : Nat} {v : Value} {n : Nat} {xs : List Value} (h : Box k cs T W) (hown : W.ownsRow B 5 1 v n xs) (hg : W.grownBy W' v.ownBlock) : Box k cs T W' := by
 refine ⟨(hg.block k h.lt (fun e => ?_)).trans h.1, h.2⟩
 rcases hown.2 with ⟨rfl, _⟩ | ⟨g, cap, cur, rfl, _, hgg, _⟩
 ·cases e
 ·have e : k = g := Option.some.inj e
  subst e
  have := h.1.symm.trans hgg
  injection this with this
  injection this with _ h2 _
  exact h.2 h2
end Go.Proofs.YtabenhpjgjjgnaaGreatDoor
/- obj. -/
namespace Go.Proofs.YtabenhpjgjjgnaaGreatDoor
open Go.RowKit
set_option maxRecDepth 100000
theorem ext_at (s : List UInt8) (a b : Nat) : ByteArray.extract ⟨s.toArray⟩ a b = ⟨((s.take b).drop a).toArray⟩ := by
 apply ByteArray.ext
 rw [ByteArray.data_extract]
 simp [List.drop_take]
theorem ext_take (s : List UInt8) (n : Nat) : ByteArray.extract ⟨s.toArray⟩ 0 n = ⟨(s.take n).toArray⟩ := by rw [ext_at]; rfl
theorem ext_drop (s : List UInt8) (n : Nat) : ByteArray.extract ⟨s.toArray⟩ n s.length = ⟨(s.drop n).toArray⟩ := by rw [ext_at, List.take_length]
def RdAt (r : Nat) (q : Rs) (W : World) : Prop := Box r #[.string ⟨q.s.toArray⟩, .bool q.bad] 169 W
theorem Box.set {k : Nat} {cs : Array Value} {T : TypeId} {w : World} (h : Box k cs T w) (i : Nat) (v : Value) : Box k (cs.setIfInBounds i v) T (w.setCell ⟨k, i, none⟩ v) := ⟨set_block h.1 v, h.2⟩
theorem grown_refl (w : World) (b : Option Nat) : w.grownBy w b := ⟨rfl, rfl, rfl, Nat.le_refl _, fun _ _ _ => rfl⟩
theorem grown_set {w w' : World} {r : Nat} (h : w.grownBy w' (some r)) (i : Nat) (v : Value) : w.grownBy (w'.setCell ⟨r, i, none⟩ v) (some r) :=
 h.trans ⟨rfl, rfl, rfl, by simp, fun k _ hk => Below.heap_setCell _ _ _ _ (fun e => hk (congrArg some e))⟩
theorem grown_below {w w' : World} {r : Option Nat} (h : Below w.heap.size w w') : w.grownBy w' r := ⟨h.os, h.tape, h.output, h.size, fun k hk _ => h.block k hk⟩
theorem Box.other {k : Nat} {cs : Array Value} {T : TypeId} {w w' : World} {r : Nat} (h : Box k cs T w) (hg : w.grownBy w' (some r)) (hk : k ≠ r) : Box k cs T w' :=
 ⟨(hg.block k h.lt (fun e => hk (Option.some.inj e))).trans h.1, h.2⟩
def RdEnd (w : World) (r : Nat) (v : Value) (q : Rs) (e : Ending) (w' : World) : Prop := e = .returned v ∧ RdAt r q w' ∧ w.grownBy w' (some r)
set_option maxHeartbeats 1000000 in
theorem raw_any (r : Nat) (q : Rs) (n : Nat) (hn : n ≤ 140737488355328) (hs : q.s.length ≤ 140737488355328) (w : World) (hR : RdAt r q w) :
 Calls Tryz.prog 196 #[.pointer (some ⟨r, 0, none⟩), .int .i64 n] w (RdEnd w r (.string ⟨(rawV q n).toArray⟩) (rawS q n)) := by
 obtain ⟨s, bad⟩ := q
 have HR := Lib.hid hR
 have c0 : w.cell? ⟨r, 0, none⟩ = some (.string ⟨s.toArray⟩) := (hR.cell 0).trans rfl
 have c1 : w.cell? ⟨r, 1, none⟩ = some (.bool bad) := (hR.cell 1).trans rfl
 have f0 := hR.frozen 0
 have f1 := hR.frozen 1
 clear hR
 cases bad
 case true =>
  go_enter Tryz.func196, Tryz.ntmps196
  go_wp2_with fail
  go_ret
  exact ⟨rfl, HR.out.set 1 (.bool true), grown_set (grown_refl _ _) _ _⟩
 by_cases h : s.length < n
 ·have HV := Lib.hid (show rawV ⟨s, false⟩ n = [] by unfold rawV overB; rw [decide_eq_true h]; rfl)
  have HS := Lib.hid (show rawS ⟨s, false⟩ n = ⟨s, true⟩ by unfold rawS overB; rw [decide_eq_true h]; rfl)
  have hI : (s.length : Int) < (n : Int) := by omega
  go_enter Tryz.func196, Tryz.ntmps196
  go_wp2_with fail
  go_ret
  rw [HV.out, HS.out]
  exact ⟨rfl, HR.out.set 1 (.bool true), grown_set (grown_refl _ _) _ _⟩
 ·have HV := Lib.hid (show rawV ⟨s, false⟩ n = s.take n by unfold rawV overB; rw [decide_eq_false h]; rfl)
  have HS := Lib.hid (show rawS ⟨s, false⟩ n = ⟨s.drop n, false⟩ by unfold rawS overB; rw [decide_eq_false h]; rfl)
  have hI : ¬ (s.length : Int) < (n : Int) := by omega
  have hI2 : (n : Int) ≤ (s.length : Int) := by omega
  go_enter Tryz.func196, Tryz.ntmps196
  go_wp2_with fail
  go_ret
  rw [HV.out, HS.out]
  rw [ext_drop]
  refine ⟨?_, (HR.out.set 1 (.bool false)).set 0 (.string ⟨(s.drop n).toArray⟩), grown_set (grown_set (grown_refl _ _) _ _) _ _⟩
  show Ending.returned (.string (ByteArray.extract ⟨s.toArray⟩ 0 n)) = _
  rw [ext_take]
theorem toN_take_succ (l : List UInt8) (k : Nat) (hk : k < l.length) : toN (l.take (k + 1)) = toN (l.take k) * 256 + (l.getD k 0).toNat := by
 rw [List.take_succ_eq_append_getElem hk, toN_snoc]
 simp [List.getD_eq_getElem?_getD, hk]
theorem or_u64 (a b : Nat) (ha : a < 18446744073709551616) (hb : b < 18446744073709551616) : bits .or .u64 (a : Int) (b : Int) = ((a ||| b : Nat) : Int) := by
 have hx : a ||| b < 2 ^ 64 := Nat.or_lt_two_pow (by omega) (by omega)
 have back : ∀ n : Nat, n < 18446744073709551616 → (BitVec.ofInt 64 (n : Int)).toNat = n := fun n hn => by
  rw [BitVec.ofInt_natCast, BitVec.toNat_ofNat]; exact Nat.mod_eq_of_lt (by omega)
 show IntKind.u64.wrap ((BitVec.ofInt 64 (a : Int) ||| BitVec.ofInt 64 (b : Int)).toNat : Int) = _
 rw [BitVec.toNat_or, back a ha, back b hb, IntKind.wrap_u64]
 omega
theorem orShl (x : Nat) (hx : x < 72057594037927936) (c : Nat) (hc : c < 256) : bits .or .u64 (((x * 256 : Nat) : Int)) (c : Int) = ((x * 256 + c : Nat) : Int) := by
 rw [or_u64 _ _ (by omega) (by omega)]
 have := Nat.shiftLeft_add_eq_or_of_lt (i := 8) (b := c) (by omega) x
 rw [Nat.shiftLeft_eq] at this
 rw [show x * 256 = x * 2 ^ 8 from rfl, ← this]
set_option maxHeartbeats 1000000 in
theorem rdNumber_any (r : Nat) (q : Rs) (n : Nat) (hn : n ≤ 8) (hs : q.s.length ≤ 140737488355328) (w : World) (hR : RdAt r q w) :
 Calls Tryz.prog 245 #[.pointer (some ⟨r, 0, none⟩), .int .i64 n] w (RdEnd w r (.int .u64 (numV q n : Nat)) (rawS q n)) := by
 have HR := Lib.hid hR
 clear hR
 go_enter Tryz.func245, Tryz.ntmps245
 go_wp2_with fail
 refine (raw_any r q n (by omega) hs _ HR.out).mono ?_
 rintro e w1 ⟨rfl, hr1, hg1⟩
 have HR1 := Lib.hid hr1
 have HG1 := Lib.hid hg1
 have hlen := rawV_len q n
 have HN := Lib.hid (show numV q n = toN (rawV q n) from rfl)
 clear hr1 hg1 HR
 generalize rawV q n = l at *
 have hcv := Lib.run_convert_string_bytes (P := Tryz.prog) w1 9 61 5 ⟨l.toArray⟩ Tryz.underlying9 Tryz.underlying61 Tryz.underlying5
 have hC := Lib.hid (show ∀ k, k < l.length → (Lib.bytesWorld w1 5 ⟨l.toArray⟩).cell? ⟨w1.heap.size, k, none⟩ = some (.int .u8 (l.getD k 0).toNat) from fun k hk => by
  have := Lib.bytesWorld_cell w1 5 ⟨l.toArray⟩ k (by simpa [ByteArray.size] using hk)
  simpa using this)
 have HB := Lib.hid (show Below w1.heap.size w1 (Lib.bytesWorld w1 5 ⟨l.toArray⟩) from ⟨rfl, rfl, rfl, by rw [Lib.bytesWorld_size]; omega, fun k hk => Lib.bytesWorld_at_old w1 _ _ k hk⟩)
 have hsz : (⟨l.toArray⟩ : ByteArray).size = l.length := by simp [ByteArray.size]
 generalize Lib.bytesWorld w1 5 ⟨l.toArray⟩ = w2 at *
 go_wp2_with fail
 clear hcv
 go_loopg [4, 12] (l.length) (fun g v i wr => ∃ k : Nat, k + g = l.length ∧ i = .int .i64 k ∧ v = .int .u64 ((toN (l.take k) : Nat) : Int) ∧ wr = w2)
 case atStart => exact ⟨0, by omega, rfl, rfl, rfl⟩
 case round =>
  obtain ⟨k, hk, rfl, rfl, rfl⟩ := hrel
  by_cases hlt : k < l.length
  ·have c0 := hC.out k hlt
   have HS := Lib.hid (toN_take_succ l k hlt)
   have hx : toN (l.take k) < 72057594037927936 := by
    have h1 := toN_lt (l.take k)
    have h2 : (l.take k).length ≤ 7 := by rw [List.length_take]; omega
    have h3 : 256 ^ (l.take k).length ≤ 256 ^ 7 := Nat.pow_le_pow_right (by omega) h2
    omega
   have hkI : (k : Int) < (l.length : Int) := by omega
   have hu := (l.getD k 0).toNat_lt
   have ho := orShl (toN (l.take k)) hx (l.getD k 0).toNat (by omega)
   generalize toN (l.take k) = x at *
   generalize (l.getD k 0).toNat = c at *
   go_wp2_with fail
   go_roundg (gk - 1)
   case measure => omega
   case rel => exact ⟨k + 1, by omega, by go_num, by rw [HS.out, ← ho]; rfl, rfl⟩
  ·obtain rfl : k = l.length := by omega
   rw [List.take_length]
   go_wp2_with fail
   go_ret
   exact ⟨by rw [HN.out]; rfl, HR1.out.grow HB.out, HG1.out.trans (grown_below HB.out)⟩
end Go.Proofs.YtabenhpjgjjgnaaGreatDoor
