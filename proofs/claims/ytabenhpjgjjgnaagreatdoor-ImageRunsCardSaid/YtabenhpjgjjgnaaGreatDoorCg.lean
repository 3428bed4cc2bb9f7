/- obj. obj. Condition: what lies in memory can lie there; what each theorem says. -/
import Derived.Test.YtabenhpjgjjgnaaGreatDoorCf
/- obj. -/
namespace Go.Proofs.YtabenhpjgjjgnaaGreatDoor
open Go.RowKit
set_option maxRecDepth 100000
theorem rdNumber2 (r : Nat) (q : Rs) (hs : q.s.length ≤ 140737488355328) (w : World) (hR : RdAt r q w) :
 Calls Tryz.prog 245 #[.pointer (some ⟨r, 0, none⟩), .int .i64 2] w (RdEnd w r (.int .u64 (numV q 2 : Nat)) (rawS q 2)) := rdNumber_any r q 2 (by omega) hs w hR
theorem rdNumber1 (r : Nat) (q : Rs) (hs : q.s.length ≤ 140737488355328) (w : World) (hR : RdAt r q w) :
 Calls Tryz.prog 245 #[.pointer (some ⟨r, 0, none⟩), .int .i64 1] w (RdEnd w r (.int .u64 (numV q 1 : Nat)) (rawS q 1)) := rdNumber_any r q 1 (by omega) hs w hR
theorem two_any (r : Nat) (q : Rs) (hs : q.s.length ≤ 140737488355328) (w : World) (hR : RdAt r q w) :
 Calls Tryz.prog 197 #[.pointer (some ⟨r, 0, none⟩)] w (RdEnd w r (.int .i64 (numV q 2 : Nat)) (rawS q 2)) := by
 have hlt := numV2_lt q
 go_enter Tryz.func197, Tryz.ntmps197
 go_wp2_with fail
 refine (rdNumber2 r q hs _ hR).mono ?_
 rintro e w1 ⟨rfl, hr1, hg1⟩
 generalize numV q 2 = n at *
 go_wp2_with fail
 go_ret
 exact ⟨rfl, hr1, hg1⟩
theorem one_any (r : Nat) (q : Rs) (hs : q.s.length ≤ 140737488355328) (w : World) (hR : RdAt r q w) :
 Calls Tryz.prog 201 #[.pointer (some ⟨r, 0, none⟩)] w (RdEnd w r (.int .i64 (numV q 1 : Nat)) (rawS q 1)) := by
 have hlt := numV1_lt q
 go_enter Tryz.func201, Tryz.ntmps201
 go_wp2_with fail
 refine (rdNumber1 r q hs _ hR).mono ?_
 rintro e w1 ⟨rfl, hr1, hg1⟩
 generalize numV q 1 = n at *
 go_wp2_with fail
 go_ret
 exact ⟨rfl, hr1, hg1⟩
theorem word_any (r : Nat) (q : Rs) (hs : q.s.length ≤ 140737488355328) (w : World) (hR : RdAt r q w) :
 Calls Tryz.prog 203 #[.pointer (some ⟨r, 0, none⟩)] w (RdEnd w r (.int .u16 (numV q 2 : Nat)) (rawS q 2)) := by
 have hlt := numV2_lt q
 go_enter Tryz.func203, Tryz.ntmps203
 go_wp2_with fail
 refine (rdNumber2 r q hs _ hR).mono ?_
 rintro e w1 ⟨rfl, hr1, hg1⟩
 generalize numV q 2 = n at *
 have hw : (n : Int) % 65536 = (n : Int) := by omega
 go_wp2_with fail
 go_ret
 exact ⟨by first | rfl | (exact ret1 (vint (by omega))), hr1, hg1⟩
set_option maxHeartbeats 1000000 in
theorem rdTruth_any (r : Nat) (q : Rs) (hs : q.s.length ≤ 140737488355328) (w : World) (hR : RdAt r q w) :
 Calls Tryz.prog 246 #[.pointer (some ⟨r, 0, none⟩)] w (RdEnd w r (.bool (truthV q)) (truthS q)) := by
 have hlt := numV1_lt q
 have HV := Lib.hid (show truthV q = (numV q 1 == 1) from rfl)
 have HS := Lib.hid (show truthS q = ⟨(rawS q 1).s, (rawS q 1).bad || decide (1 < numV q 1)⟩ from rfl)
 go_enter Tryz.func246, Tryz.ntmps246
 go_wp2_with fail
 refine (one_any r q hs _ hR).mono ?_
 rintro e w1 ⟨rfl, hr1, hg1⟩
 have HR1 := Lib.hid hr1
 have HG1 := Lib.hid hg1
 generalize numV q 1 = n at *
 have HEq := Lib.hid (show (n == 1) = ((n : Int) == 1) by rw [Bool.eq_iff_iff]; simp; omega)
 generalize rawS q 1 = q1 at *
 clear hr1 hg1
 obtain ⟨s1, bad⟩ := q1
 have c1 : w1.cell? ⟨r, 1, none⟩ = some (.bool bad) := (HR1.out.cell 1).trans rfl
 have f1 := HR1.out.frozen 1
 cases bad
 case true =>
  go_wp2_with fail
  go_ret
  refine ⟨ret1 (vbool ?_), ?_, grown_set HG1.out _ _⟩
  ·rw [HV.out, HEq.out]
  ·rw [HS.out]; exact HR1.out.set 1 (.bool true)
 case false =>
  by_cases h : 1 < n
  ·go_wp2_with fail
   go_ret
   refine ⟨ret1 (vbool ?_), ?_, grown_set HG1.out _ _⟩
   ·rw [HV.out, HEq.out]
   ·rw [HS.out, decide_eq_true h, show decide ((1 : Int) < (n : Int)) = true by simp; omega]; exact HR1.out.set 1 (.bool true)
  ·go_wp2_with fail
   go_ret
   refine ⟨ret1 (vbool ?_), ?_, grown_set HG1.out _ _⟩
   ·rw [HV.out, HEq.out]
   ·rw [HS.out, decide_eq_false h, show decide ((1 : Int) < (n : Int)) = false by simp; omega]; exact HR1.out.set 1 (.bool false)
theorem Box.setOther {k : Nat} {cs : Array Value} {T : TypeId} {w : World} (h : Box k cs T w) {p : Nat} (hp : p ≠ k) (i : Nat) (v : Value) : Box k cs T (w.setCell ⟨p, i, none⟩ v) :=
 ⟨(Below.heap_setCell _ _ _ _ (fun e => hp e.symm)).trans h.1, h.2⟩
theorem Box.to {k : Nat} {cs ds : Array Value} {T : TypeId} {w : World} (h : Box k cs T w) (e : cs = ds) : Box k ds T w := e ▸ h
theorem grown_setNew {w w' : World} {r : Option Nat} (h : w.grownBy w' r) {p : Nat} (hp : w.heap.size ≤ p) (i : Nat) (v : Value) : w.grownBy (w'.setCell ⟨p, i, none⟩ v) r := by
 refine ⟨h.os, h.tape, h.output, by simpa using h.size, fun k hk hne => (Below.heap_setCell _ _ _ _ (fun e => ?_)).trans (h.block k hk hne)⟩
 have : k = p := e
 omega
theorem RdAt.other {r : Nat} {q : Rs} {w w' : World} (h : RdAt r q w) (hb : Below w.heap.size w w') : RdAt r q w' := Box.grow h hb
set_option maxHeartbeats 2000000 in
theorem rdProc_any (r : Nat) (q : Rs) (hs : q.s.length ≤ 140737488355328) (w : World) (hR : RdAt r q w) :
 Calls Tryz.prog 199 #[.pointer (some ⟨r, 0, none⟩)] w (RdEnd w r (procV (procR q).1) (procR q).2) := by
 have hrl := Box.lt hR
 have HA := Lib.hid (alloc_below w (.cells #[.int .i64 0, .int .i64 0, .int .i64 0, .int .i64 0, .int .i64 0, .bool false] 113))
 have HP0 := Lib.hid (Box.new w #[.int .i64 0, .int .i64 0, .int .i64 0, .int .i64 0, .int .i64 0, .bool false] 113 (by decide))
 have HR0 := Lib.hid (hR.other HA.out)
 have HG0 := Lib.hid (grown_below (r := some r) HA.out)
 have hne : w.heap.size ≠ r := by omega
 clear hR
 unfold procR procV
 simp only
 go_enter Tryz.func199, Tryz.ntmps199
 go_wp2_with fail
 refine (two_any r q hs _ HR0.out).mono ?_
 rintro e w1 ⟨rfl, hr1, hg1⟩
 have HR1 := Lib.hid hr1
 have HG1 := Lib.hid (HG0.out.trans hg1)
 have HP1 := Lib.hid (HP0.out.other hg1 hne)
 have hs1 : (rawS q 2).s.length ≤ 140737488355328 := Nat.le_trans (rawS_len q 2) hs
 clear hr1 hg1 HR0 HG0 HP0 HA hs
 generalize numV q 2 = n1 at *
 generalize rawS q 2 = q1 at *
 go_wp2_with fail
 refine (two_any r q1 hs1 _ HR1.out).mono ?_
 rintro e w2 ⟨rfl, hr1, hg1⟩
 have HR2 := Lib.hid hr1
 have HG2 := Lib.hid (HG1.out.trans hg1)
 have HP2 := Lib.hid (HP1.out.other hg1 hne)
 have hs2 : (rawS q1 2).s.length ≤ 140737488355328 := Nat.le_trans (rawS_len q1 2) hs1
 clear hr1 hg1 HR1 HG1 HP1 hs1
 generalize numV q1 2 = n2 at *
 generalize rawS q1 2 = q2 at *
 go_wp2_with fail
 refine (two_any r q2 hs2 _ HR2.out).mono ?_
 rintro e w3 ⟨rfl, hr1, hg1⟩
 have HR3 := Lib.hid hr1
 have HG3 := Lib.hid (HG2.out.trans hg1)
 have HP3 := Lib.hid (HP2.out.other hg1 hne)
 have hs3 : (rawS q2 2).s.length ≤ 140737488355328 := Nat.le_trans (rawS_len q2 2) hs2
 clear hr1 hg1 HR2 HG2 HP2 hs2
 generalize numV q2 2 = n3 at *
 generalize rawS q2 2 = q3 at *
 go_wp2_with fail
 refine (two_any r q3 hs3 _ HR3.out).mono ?_
 rintro e w4 ⟨rfl, hr1, hg1⟩
 have HR4 := Lib.hid hr1
 have HG4 := Lib.hid (HG3.out.trans hg1)
 have HP4 := Lib.hid (HP3.out.other hg1 hne)
 have hs4 : (rawS q3 2).s.length ≤ 140737488355328 := Nat.le_trans (rawS_len q3 2) hs3
 clear hr1 hg1 HR3 HG3 HP3 hs3
 generalize numV q3 2 = n4 at *
 generalize rawS q3 2 = q4 at *
 have c0 : w4.cell? ⟨w.heap.size, 0, none⟩ = some (.int .i64 0) := (HP4.out.cell 0).trans rfl
 have c1 : w4.cell? ⟨w.heap.size, 1, none⟩ = some (.int .i64 0) := (HP4.out.cell 1).trans rfl
 have c2 : w4.cell? ⟨w.heap.size, 2, none⟩ = some (.int .i64 0) := (HP4.out.cell 2).trans rfl
 have c3 : w4.cell? ⟨w.heap.size, 3, none⟩ = some (.int .i64 0) := (HP4.out.cell 3).trans rfl
 have f0 := HP4.out.frozen 0
 have f1 := HP4.out.frozen 1
 have f2 := HP4.out.frozen 2
 have f3 := HP4.out.frozen 3
 go_wp2_with fail
 have HPa0 := Lib.hid ((HP4.out.set 0 (.int .i64 n1)).to (ds := #[.int .i64 n1, .int .i64 0, .int .i64 0, .int .i64 0, .int .i64 0, .bool false]) (by simp))
 have HPa1 := Lib.hid ((HPa0.out.set 1 (.int .i64 n2)).to (ds := #[.int .i64 n1, .int .i64 n2, .int .i64 0, .int .i64 0, .int .i64 0, .bool false]) (by simp))
 have HPa2 := Lib.hid ((HPa1.out.set 2 (.int .i64 n3)).to (ds := #[.int .i64 n1, .int .i64 n2, .int .i64 n3, .int .i64 0, .int .i64 0, .bool false]) (by simp))
 have HPa3 := Lib.hid ((HPa2.out.set 3 (.int .i64 n4)).to (ds := #[.int .i64 n1, .int .i64 n2, .int .i64 n3, .int .i64 n4, .int .i64 0, .bool false]) (by simp))
 have HP5 := HPa3
 clear HPa0 HPa1 HPa2 HPa3
 have HR5 := Lib.hid (show RdAt r q4 _ from ((((HR4.out.setOther hne 0 (.int .i64 n1)).setOther hne 1 (.int .i64 n2)).setOther hne 2 (.int .i64 n3)).setOther hne 3 (.int .i64 n4)))
 have HG5 := Lib.hid (grown_setNew (grown_setNew (grown_setNew (grown_setNew HG4.out (Nat.le_refl _) 0 (.int .i64 n1)) (Nat.le_refl _) 1 (.int .i64 n2)) (Nat.le_refl _) 2 (.int .i64 n3)) (Nat.le_refl _) 3 (.int .i64 n4))
 clear c0 c1 c2 c3 f0 f1 f2 f3 HP4 HR4 HG4
 generalize World.setCell (World.setCell (World.setCell (World.setCell w4 ⟨w.heap.size, 0, none⟩ (.int .i64 n1)) ⟨w.heap.size, 1, none⟩ (.int .i64 n2)) ⟨w.heap.size, 2, none⟩ (.int .i64 n3)) ⟨w.heap.size, 3, none⟩ (.int .i64 n4) = w5 at *
 refine (one_any r q4 hs4 _ HR5.out).mono ?_
 rintro e w6 ⟨rfl, hr1, hg1⟩
 have HR6 := Lib.hid hr1
 have HG6 := Lib.hid (HG5.out.trans hg1)
 have HP6 := Lib.hid (HP5.out.other hg1 hne)
 have hs6 : (rawS q4 1).s.length ≤ 140737488355328 := Nat.le_trans (rawS_len q4 1) hs4
 clear hr1 hg1 HR5 HG5 HP5 hs4
 generalize numV q4 1 = n5 at *
 generalize rawS q4 1 = q5 at *
 go_wp2_with fail
 refine (rdTruth_any r q5 hs6 _ HR6.out).mono ?_
 rintro e w7 ⟨rfl, hr1, hg1⟩
 have HR7 := Lib.hid hr1
 have HG7 := Lib.hid (HG6.out.trans hg1)
 have HP7 := Lib.hid (HP6.out.other hg1 hne)
 clear hr1 hg1 HR6 HG6 HP6
 generalize truthV q5 = tf at *
 generalize truthS q5 = q7 at *
 have c0 : w7.cell? ⟨w.heap.size, 0, none⟩ = some (.int .i64 n1) := (HP7.out.cell 0).trans rfl
 have c1 : w7.cell? ⟨w.heap.size, 1, none⟩ = some (.int .i64 n2) := (HP7.out.cell 1).trans rfl
 have c2 : w7.cell? ⟨w.heap.size, 2, none⟩ = some (.int .i64 n3) := (HP7.out.cell 2).trans rfl
 have c3 : w7.cell? ⟨w.heap.size, 3, none⟩ = some (.int .i64 n4) := (HP7.out.cell 3).trans rfl
 have c4 : w7.cell? ⟨w.heap.size, 4, none⟩ = some (.int .i64 0) := (HP7.out.cell 4).trans rfl
 have c5 : w7.cell? ⟨w.heap.size, 5, none⟩ = some (.bool false) := (HP7.out.cell 5).trans rfl
 have f0 := HP7.out.frozen 0
 have f1 := HP7.out.frozen 1
 have f2 := HP7.out.frozen 2
 have f3 := HP7.out.frozen 3
 have f4 := HP7.out.frozen 4
 have f5 := HP7.out.frozen 5
 go_wp2_with fail
 have HPb0 := Lib.hid ((HP7.out.set 4 (.int .i64 n5)).to (ds := #[.int .i64 n1, .int .i64 n2, .int .i64 n3, .int .i64 n4, .int .i64 n5, .bool false]) (by simp))
 have HPb1 := Lib.hid ((HPb0.out.set 5 (.bool tf)).to (ds := #[.int .i64 n1, .int .i64 n2, .int .i64 n3, .int .i64 n4, .int .i64 n5, .bool tf]) (by simp))
 have HPb2 := Lib.hid ((HPb1.out.set 0 (.int .i64 n1)).to (ds := #[.int .i64 n1, .int .i64 n2, .int .i64 n3, .int .i64 n4, .int .i64 n5, .bool tf]) (by simp))
 have HPb3 := Lib.hid ((HPb2.out.set 1 (.int .i64 n2)).to (ds := #[.int .i64 n1, .int .i64 n2, .int .i64 n3, .int .i64 n4, .int .i64 n5, .bool tf]) (by simp))
 have HPb4 := Lib.hid ((HPb3.out.set 2 (.int .i64 n3)).to (ds := #[.int .i64 n1, .int .i64 n2, .int .i64 n3, .int .i64 n4, .int .i64 n5, .bool tf]) (by simp))
 have HPb5 := Lib.hid ((HPb4.out.set 3 (.int .i64 n4)).to (ds := #[.int .i64 n1, .int .i64 n2, .int .i64 n3, .int .i64 n4, .int .i64 n5, .bool tf]) (by simp))
 have HPb6 := Lib.hid ((HPb5.out.set 4 (.int .i64 n5)).to (ds := #[.int .i64 n1, .int .i64 n2, .int .i64 n3, .int .i64 n4, .int .i64 n5, .bool tf]) (by simp))
 have HPb7 := Lib.hid ((HPb6.out.set 5 (.bool tf)).to (ds := #[.int .i64 n1, .int .i64 n2, .int .i64 n3, .int .i64 n4, .int .i64 n5, .bool tf]) (by simp))
 have HP8 := HPb7
 clear HPb0 HPb1 HPb2 HPb3 HPb4 HPb5 HPb6 HPb7
 have HR8 := Lib.hid (show RdAt r q7 (World.setCell (World.setCell (World.setCell (World.setCell (World.setCell (World.setCell (World.setCell (World.setCell w7 ⟨w.heap.size, 4, none⟩ (.int .i64 n5)) ⟨w.heap.size, 5, none⟩ (.bool tf)) ⟨w.heap.size, 0, none⟩ (.int .i64 n1)) ⟨w.heap.size, 1, none⟩ (.int .i64 n2)) ⟨w.heap.size, 2, none⟩ (.int .i64 n3)) ⟨w.heap.size, 3, none⟩ (.int .i64 n4)) ⟨w.heap.size, 4, none⟩ (.int .i64 n5)) ⟨w.heap.size, 5, none⟩ (.bool tf)) from ((((((((HR7.out.setOther hne 4 (.int .i64 n5)).setOther hne 5 (.bool tf)).setOther hne 0 (.int .i64 n1)).setOther hne 1 (.int .i64 n2)).setOther hne 2 (.int .i64 n3)).setOther hne 3 (.int .i64 n4)).setOther hne 4 (.int .i64 n5)).setOther hne 5 (.bool tf)))
 have HG8 := Lib.hid (show w.grownBy (World.setCell (World.setCell (World.setCell (World.setCell (World.setCell (World.setCell (World.setCell (World.setCell w7 ⟨w.heap.size, 4, none⟩ (.int .i64 n5)) ⟨w.heap.size, 5, none⟩ (.bool tf)) ⟨w.heap.size, 0, none⟩ (.int .i64 n1)) ⟨w.heap.size, 1, none⟩ (.int .i64 n2)) ⟨w.heap.size, 2, none⟩ (.int .i64 n3)) ⟨w.heap.size, 3, none⟩ (.int .i64 n4)) ⟨w.heap.size, 4, none⟩ (.int .i64 n5)) ⟨w.heap.size, 5, none⟩ (.bool tf)) (some r) from (grown_setNew (grown_setNew (grown_setNew (grown_setNew (grown_setNew (grown_setNew (grown_setNew (grown_setNew HG7.out (Nat.le_refl _) 4 (.int .i64 n5)) (Nat.le_refl _) 5 (.bool tf)) (Nat.le_refl _) 0 (.int .i64 n1)) (Nat.le_refl _) 1 (.int .i64 n2)) (Nat.le_refl _) 2 (.int .i64 n3)) (Nat.le_refl _) 3 (.int .i64 n4)) (Nat.le_refl _) 4 (.int .i64 n5)) (Nat.le_refl _) 5 (.bool tf)))
 clear c0 c1 c2 c3 c4 c5 f0 f1 f2 f3 f4 f5 HP7 HR7 HG7
 generalize World.setCell (World.setCell (World.setCell (World.setCell (World.setCell (World.setCell (World.setCell (World.setCell w7 ⟨w.heap.size, 4, none⟩ (.int .i64 n5)) ⟨w.heap.size, 5, none⟩ (.bool tf)) ⟨w.heap.size, 0, none⟩ (.int .i64 n1)) ⟨w.heap.size, 1, none⟩ (.int .i64 n2)) ⟨w.heap.size, 2, none⟩ (.int .i64 n3)) ⟨w.heap.size, 3, none⟩ (.int .i64 n4)) ⟨w.heap.size, 4, none⟩ (.int .i64 n5)) ⟨w.heap.size, 5, none⟩ (.bool tf) = w8 at *
 have c0 : w8.cell? ⟨w.heap.size, 0, none⟩ = some (.int .i64 n1) := (HP8.out.cell 0).trans rfl
 have c1 : w8.cell? ⟨w.heap.size, 1, none⟩ = some (.int .i64 n2) := (HP8.out.cell 1).trans rfl
 have c2 : w8.cell? ⟨w.heap.size, 2, none⟩ = some (.int .i64 n3) := (HP8.out.cell 2).trans rfl
 have c3 : w8.cell? ⟨w.heap.size, 3, none⟩ = some (.int .i64 n4) := (HP8.out.cell 3).trans rfl
 have c4 : w8.cell? ⟨w.heap.size, 4, none⟩ = some (.int .i64 n5) := (HP8.out.cell 4).trans rfl
 have c5 : w8.cell? ⟨w.heap.size, 5, none⟩ = some (.bool tf) := (HP8.out.cell 5).trans rfl
 refine bodyPost_ret (v := .agg #[.int .i64 n1, .int .i64 n2, .int .i64 n3, .int .i64 n4, .int .i64 n5, .bool tf]) (by simp [results, Tryz.results199, go_sem, c0, c1, c2, c3, c4, c5]) rfl ⟨rfl, HR8.out, HG8.out⟩
end Go.Proofs.YtabenhpjgjjgnaaGreatDoor
/- obj. -/
namespace Go.Proofs.YtabenhpjgjjgnaaGreatDoor
open Go.RowKit
set_option maxRecDepth 100000
def cellsP (p : ProcL) : List Value := [.int .i64 p.at_, .int .i64 p.params, .int .i64 p.locals, .int .i64 p.depth, .int .i64 p.level, .bool p.fn]
def cellsI (i : Int) : List Value := [.int .i64 i]
def cellsW (n : Nat) : List Value := [.int .u16 n]
theorem etProcs : ET Tryz.prog 66 113 6 48 := et_of (z := .agg #[.int .i64 0, .int .i64 0, .int .i64 0, .int .i64 0, .int .i64 0, .bool false]) Tryz.underlying66 (by kernel_rfl) rfl (by omega)
theorem etInts : ET Tryz.prog 23 3 1 8 := et_of (z := .int .i64 0) Tryz.underlying23 (by kernel_rfl) rfl (by omega)
theorem etWords : ET Tryz.prog 40 50 1 2 := et_of (z := .int .u16 0) Tryz.underlying40 (by kernel_rfl) rfl (by omega)
theorem own_other {w w' : World} {B r : Nat} {e : TypeId} {size : Nat} {v : Value} {n : Nat} {xs : List Value} (h : w.ownsRow B e size v n xs) (hg : w.grownBy w' (some r)) (hr : r < B) : w'.ownsRow B e size v n xs := by
 refine ⟨h.1, ?_⟩
 rcases h.2 with hn | ⟨g, cap, cur, rfl, hB, hgg, rest⟩
 ·exact .inl hn
 ·exact .inr ⟨g, cap, cur, rfl, hB, (hg.block g (lt_of_get hgg) (fun e => by have := Option.some.inj e; omega)).trans hgg, rest⟩
theorem RdAt.app {r : Nat} {q : Rs} {w w' : World} {B : Nat} {e : TypeId} {size : Nat} {v : Value} {n : Nat} {xs : List Value} (h : RdAt r q w) (hown : w.ownsRow B e size v n xs) (hg : w.grownBy w' v.ownBlock) (hr : r < B) : RdAt r q w' :=
 ⟨(hg.block r (Box.lt h) (fun e => by have := (hown.lt r e.symm).1; omega)).trans h.1, h.2⟩
theorem grown_app {a w w' : World} {r : Option Nat} {B : Nat} {e : TypeId} {size : Nat} {v : Value} {n : Nat} {xs : List Value} (h : a.grownBy w r) (hown : w.ownsRow B e size v n xs) (hg : w.grownBy w' v.ownBlock) (hB : a.heap.size ≤ B) : a.grownBy w' r :=
 h.andThen hg fun j hj => .inl (Nat.le_trans hB (hown.lt j hj).1)
theorem listTo_s {α : Type} (one : Rs → α × Rs) (h1 : ∀ q, (one q).2.s.length ≤ q.s.length) (k : Nat) (q : Rs) : (listTo one k q).2.s.length ≤ q.s.length := by
 induction k with
 | zero => exact Nat.le_refl _
 | succ k ih =>
   cases h : (listTo one k q).2.bad
   ·rw [listTo_succ_ok _ _ _ h]; exact Nat.le_trans (h1 _) ih
   ·rw [listTo_succ_bad _ _ _ h]; exact ih
theorem truthS_len (q : Rs) : (truthS q).s.length ≤ q.s.length := rawS_len q 1
theorem procR_len (q : Rs) : (procR q).2.s.length ≤ q.s.length :=
 Nat.le_trans (truthS_len _) (Nat.le_trans (rawS_len _ _) (Nat.le_trans (rawS_len _ _) (Nat.le_trans (rawS_len _ _) (Nat.le_trans (rawS_len _ _) (rawS_len _ _)))))
def ListEnd (w : World) (r : Nat) (T : TypeId) (size : Nat) (n : Nat) (cells : List Value) (q : Rs) (e : Ending) (w' : World) : Prop := ∃ v, e = .returned v ∧ w'.ownsRow w.heap.size T size v n cells ∧ RdAt r q w' ∧ w.grownBy w' (some r)
set_option maxHeartbeats 2000000 in
theorem listProcs (r : Nat) (q : Rs) (n : Nat) (hn : n ≤ 65535) (hs : q.s.length ≤ 140737488355328) (w : World) (hR : RdAt r q w) :
 Calls Tryz.prog 198 #[.pointer (some ⟨r, 0, none⟩), .int .i64 n, .func (.func 199) #[.pointer (some ⟨r, 0, none⟩)] #[]] w (ListEnd w r 113 6 (listTo procR n q).1.length ((listTo procR n q).1.flatMap cellsP) (listTo procR n q).2) := by
 have hrl := Box.lt hR
 have HR := Lib.hid hR
 clear hR
 go_enter Tryz.func198, Tryz.ntmps198
 go_wp2_with fail
 go_loopg [1, 6] (n + 1) (fun g i v wr => ∃ k : Nat, k + g = n + 1 ∧ k ≤ n ∧ i = .int .i64 ((n : Int) - k) ∧ wr.ownsRow w.heap.size 113 6 v (listTo procR k q).1.length ((listTo procR k q).1.flatMap cellsP) ∧ RdAt r (listTo procR k q).2 wr ∧ w.grownBy wr (some r))
 case atStart => exact ⟨0, by omega, by omega, by simp, World.ownsRow_nil .., HR.out, grown_refl _ _⟩
 case round =>
  clear HR
  obtain ⟨k, hk, hkn, rfl, hown, hr, hg⟩ := hrel
  have HO := Lib.hid hown
  have HR := Lib.hid hr
  have HG := Lib.hid hg
  have hsk : (listTo procR k q).2.s.length ≤ 140737488355328 := Nat.le_trans (listTo_s procR procR_len k q) hs
  have hlk := listTo_len procR k q
  have HSu := Lib.hid (listTo_succ_ok procR k q)
  have HBd := Lib.hid (listTo_bad procR k n hkn q)
  clear hown hr hg
  obtain ⟨A0, cap0, hv0⟩ := own_slice' HO.out
  subst hv0
  by_cases hlt : k < n
  ·have hpos : (0 : Int) < (n : Int) - k := by omega
   generalize hL : listTo procR k q = L at *
   obtain ⟨l, ⟨s1, bad⟩⟩ := L
   simp only at HO HR hsk hlk HSu HBd
   have c1 : wr.cell? ⟨r, 1, none⟩ = some (.bool bad) := (HR.out.cell 1).trans rfl
   cases bad
   case true =>
    have HE := Lib.hid (HBd.out rfl)
    go_wp2_with fail
    go_ret
    rw [HE.out]
    exact ⟨_, rfl, HO.out, HR.out, HG.out⟩
   case false =>
    have HE := Lib.hid (HSu.out rfl)
    go_wp2_with fail
    refine (rdProc_any r ⟨s1, false⟩ hsk _ HR.out).mono ?_
    rintro e w1 ⟨rfl, hr1, hg1⟩
    have HR1 := Lib.hid hr1
    have HG1 := Lib.hid (HG.out.trans hg1)
    have HO1 := Lib.hid (own_other HO.out hg1 hrl)
    have hws : w.heap.size ≤ w1.heap.size := HG1.out.size
    clear hr1 hg1 HR HG HO c1
    generalize (procR ⟨s1, false⟩).1 = x at *
    generalize (procR ⟨s1, false⟩).2 = q1 at *
    unfold procV
    go_wp2_with (at_builtin; refine wpList_app etProcs rfl _ _ rfl w.heap.size _ l.length (l.flatMap cellsP) rfl (own_later HO1.out (alloc_below _ _)) _ 1 (cellsP x) rfl (src_new etProcs _ (cellsP x).toArray _ 1 1 rfl (by simp [cellsP, Value.oneCell'])) (by omega) (by unfold maxLen; omega) (by simp; omega) ?_; intro u9 x9 hA9)
    have HA := Lib.hid (alloc_below w1 (.cells (cellsP x).toArray 113))
    have HO9 := Lib.hid hA9.own
    have HR9 := Lib.hid ((HR1.out.other HA.out).app (own_later HO1.out HA.out) hA9.grown hrl)
    have HG9 := Lib.hid (grown_app (HG1.out.trans (grown_below HA.out)) (own_later HO1.out HA.out) hA9.grown (Nat.le_refl _))
    clear hA9
    go_roundg (gk - 1)
    case measure => omega
    case rel =>
     refine ⟨k + 1, by omega, by omega, ?_, ?_, ?_, HG9.out⟩
     ·go_num
     ·rw [HE.out, List.flatMap_append]
      simpa using HO9.out
     ·rw [HE.out]; exact HR9.out
  ·obtain rfl : k = n := by omega
   have hz : (k : Int) - k = 0 := by omega
   rw [hz]
   go_wp2_with fail
   go_ret
   exact ⟨_, rfl, HO.out, HR.out, HG.out⟩
set_option maxHeartbeats 2000000 in
theorem listInts (r : Nat) (q : Rs) (n : Nat) (hn : n ≤ 65535) (hs : q.s.length ≤ 140737488355328) (w : World) (hR : RdAt r q w) :
 Calls Tryz.prog 200 #[.pointer (some ⟨r, 0, none⟩), .int .i64 n, .func (.func 201) #[.pointer (some ⟨r, 0, none⟩)] #[]] w (ListEnd w r 3 1 (listTo impR n q).1.length ((listTo impR n q).1.flatMap cellsI) (listTo impR n q).2) := by
 have hrl := Box.lt hR
 have HR := Lib.hid hR
 clear hR
 go_enter Tryz.func200, Tryz.ntmps200
 go_wp2_with fail
 go_loopg [1, 6] (n + 1) (fun g i v wr => ∃ k : Nat, k + g = n + 1 ∧ k ≤ n ∧ i = .int .i64 ((n : Int) - k) ∧ wr.ownsRow w.heap.size 3 1 v (listTo impR k q).1.length ((listTo impR k q).1.flatMap cellsI) ∧ RdAt r (listTo impR k q).2 wr ∧ w.grownBy wr (some r))
 case atStart => exact ⟨0, by omega, by omega, by simp, World.ownsRow_nil .., HR.out, grown_refl _ _⟩
 case round =>
  clear HR
  obtain ⟨k, hk, hkn, rfl, hown, hr, hg⟩ := hrel
  have HO := Lib.hid hown
  have HR := Lib.hid hr
  have HG := Lib.hid hg
  have hsk : (listTo impR k q).2.s.length ≤ 140737488355328 := Nat.le_trans (listTo_s impR (fun q => rawS_len q 1) k q) hs
  have hlk := listTo_len impR k q
  have HSu := Lib.hid (listTo_succ_ok impR k q)
  have HBd := Lib.hid (listTo_bad impR k n hkn q)
  clear hown hr hg
  obtain ⟨A0, cap0, hv0⟩ := own_slice' HO.out
  subst hv0
  by_cases hlt : k < n
  ·have hpos : (0 : Int) < (n : Int) - k := by omega
   generalize hL : listTo impR k q = L at *
   obtain ⟨l, ⟨s1, bad⟩⟩ := L
   simp only at HO HR hsk hlk HSu HBd
   have c1 : wr.cell? ⟨r, 1, none⟩ = some (.bool bad) := (HR.out.cell 1).trans rfl
   cases bad
   case true =>
    have HE := Lib.hid (HBd.out rfl)
    go_wp2_with fail
    go_ret
    rw [HE.out]
    exact ⟨_, rfl, HO.out, HR.out, HG.out⟩
   case false =>
    have HE := Lib.hid (HSu.out rfl)
    go_wp2_with fail
    refine (one_any r ⟨s1, false⟩ hsk _ HR.out).mono ?_
    rintro e w1 ⟨rfl, hr1, hg1⟩
    have HR1 := Lib.hid hr1
    have HG1 := Lib.hid (HG.out.trans hg1)
    have HO1 := Lib.hid (own_other HO.out hg1 hrl)
    have hws : w.heap.size ≤ w1.heap.size := HG1.out.size
    clear hr1 hg1 HR HG HO c1
    have HIm := Lib.hid (show impR ⟨s1, false⟩ = ((numV ⟨s1, false⟩ 1 : Int), rawS ⟨s1, false⟩ 1) from rfl)
    rw [HIm.out] at HE
    generalize ((numV ⟨s1, false⟩ 1 : Nat) : Int) = x at *
    generalize rawS ⟨s1, false⟩ 1 = q1 at *
    go_wp2_with (at_builtin; refine wpList_app etInts rfl _ _ rfl w.heap.size _ l.length (l.flatMap cellsI) rfl (own_later HO1.out (alloc_below _ _)) _ 1 (cellsI x) rfl (src_new etInts _ (cellsI x).toArray _ 1 1 rfl (by simp [cellsI, Value.oneCell'])) (by omega) (by unfold maxLen; omega) (by simp; omega) ?_; intro u9 x9 hA9)
    have HA := Lib.hid (alloc_below w1 (.cells (cellsI x).toArray 3))
    have HO9 := Lib.hid hA9.own
    have HR9 := Lib.hid ((HR1.out.other HA.out).app (own_later HO1.out HA.out) hA9.grown hrl)
    have HG9 := Lib.hid (grown_app (HG1.out.trans (grown_below HA.out)) (own_later HO1.out HA.out) hA9.grown (Nat.le_refl _))
    clear hA9
    go_roundg (gk - 1)
    case measure => omega
    case rel =>
     refine ⟨k + 1, by omega, by omega, ?_, ?_, ?_, HG9.out⟩
     ·go_num
     ·rw [HE.out, List.flatMap_append]
      simpa using HO9.out
     ·rw [HE.out]; exact HR9.out
  ·obtain rfl : k = n := by omega
   have hz : (k : Int) - k = 0 := by omega
   rw [hz]
   go_wp2_with fail
   go_ret
   exact ⟨_, rfl, HO.out, HR.out, HG.out⟩
set_option maxHeartbeats 2000000 in
theorem listWords (r : Nat) (q : Rs) (n : Nat) (hn : n ≤ 65535) (hs : q.s.length ≤ 140737488355328) (w : World) (hR : RdAt r q w) :
 Calls Tryz.prog 202 #[.pointer (some ⟨r, 0, none⟩), .int .i64 n, .func (.func 203) #[.pointer (some ⟨r, 0, none⟩)] #[]] w (ListEnd w r 50 1 (listTo wordR n q).1.length ((listTo wordR n q).1.flatMap cellsW) (listTo wordR n q).2) := by
 have hrl := Box.lt hR
 have HR := Lib.hid hR
 clear hR
 go_enter Tryz.func202, Tryz.ntmps202
 go_wp2_with fail
 go_loopg [1, 6] (n + 1) (fun g i v wr => ∃ k : Nat, k + g = n + 1 ∧ k ≤ n ∧ i = .int .i64 ((n : Int) - k) ∧ wr.ownsRow w.heap.size 50 1 v (listTo wordR k q).1.length ((listTo wordR k q).1.flatMap cellsW) ∧ RdAt r (listTo wordR k q).2 wr ∧ w.grownBy wr (some r))
 case atStart => exact ⟨0, by omega, by omega, by simp, World.ownsRow_nil .., HR.out, grown_refl _ _⟩
 case round =>
  clear HR
  obtain ⟨k, hk, hkn, rfl, hown, hr, hg⟩ := hrel
  have HO := Lib.hid hown
  have HR := Lib.hid hr
  have HG := Lib.hid hg
  have hsk : (listTo wordR k q).2.s.length ≤ 140737488355328 := Nat.le_trans (listTo_s wordR (fun q => rawS_len q 2) k q) hs
  have hlk := listTo_len wordR k q
  have HSu := Lib.hid (listTo_succ_ok wordR k q)
  have HBd := Lib.hid (listTo_bad wordR k n hkn q)
  clear hown hr hg
  obtain ⟨A0, cap0, hv0⟩ := own_slice' HO.out
  subst hv0
  by_cases hlt : k < n
  ·have hpos : (0 : Int) < (n : Int) - k := by omega
   generalize hL : listTo wordR k q = L at *
   obtain ⟨l, ⟨s1, bad⟩⟩ := L
   simp only at HO HR hsk hlk HSu HBd
   have c1 : wr.cell? ⟨r, 1, none⟩ = some (.bool bad) := (HR.out.cell 1).trans rfl
   cases bad
   case true =>
    have HE := Lib.hid (HBd.out rfl)
    go_wp2_with fail
    go_ret
    rw [HE.out]
    exact ⟨_, rfl, HO.out, HR.out, HG.out⟩
   case false =>
    have HE := Lib.hid (HSu.out rfl)
    go_wp2_with fail
    refine (word_any r ⟨s1, false⟩ hsk _ HR.out).mono ?_
    rintro e w1 ⟨rfl, hr1, hg1⟩
    have HR1 := Lib.hid hr1
    have HG1 := Lib.hid (HG.out.trans hg1)
    have HO1 := Lib.hid (own_other HO.out hg1 hrl)
    have hws : w.heap.size ≤ w1.heap.size := HG1.out.size
    clear hr1 hg1 HR HG HO c1
    have HIm := Lib.hid (show wordR ⟨s1, false⟩ = (numV ⟨s1, false⟩ 2, rawS ⟨s1, false⟩ 2) from rfl)
    rw [HIm.out] at HE
    generalize numV ⟨s1, false⟩ 2 = x at *
    generalize rawS ⟨s1, false⟩ 2 = q1 at *
    go_wp2_with (at_builtin; refine wpList_app etWords rfl _ _ rfl w.heap.size _ l.length (l.flatMap cellsW) rfl (own_later HO1.out (alloc_below _ _)) _ 1 (cellsW x) rfl (src_new etWords _ (cellsW x).toArray _ 1 1 rfl (by simp [cellsW, Value.oneCell'])) (by omega) (by unfold maxLen; omega) (by simp; omega) ?_; intro u9 x9 hA9)
    have HA := Lib.hid (alloc_below w1 (.cells (cellsW x).toArray 50))
    have HO9 := Lib.hid hA9.own
    have HR9 := Lib.hid ((HR1.out.other HA.out).app (own_later HO1.out HA.out) hA9.grown hrl)
    have HG9 := Lib.hid (grown_app (HG1.out.trans (grown_below HA.out)) (own_later HO1.out HA.out) hA9.grown (Nat.le_refl _))
    clear hA9
    go_roundg (gk - 1)
    case measure => omega
    case rel =>
     refine ⟨k + 1, by omega, by omega, ?_, ?_, ?_, HG9.out⟩
     ·go_num
     ·rw [HE.out, List.flatMap_append]
      simpa using HO9.out
     ·rw [HE.out]; exact HR9.out
  ·obtain rfl : k = n := by omega
   have hz : (k : Int) - k = 0 := by omega
   rw [hz]
   go_wp2_with fail
   go_ret
   exact ⟨_, rfl, HO.out, HR.out, HG.out⟩
end Go.Proofs.YtabenhpjgjjgnaaGreatDoor
