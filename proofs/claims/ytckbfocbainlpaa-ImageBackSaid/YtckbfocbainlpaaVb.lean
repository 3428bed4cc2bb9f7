/- obj.reader's two, one, word, truth, proc. Condition: what lies in memory can lie there. -/
import Derived.Test.YtckbfocbainlpaaVa
namespace Go.Proofs.Ytckbfocbainlpaa
open Go.RowKit
set_option maxRecDepth 100000

theorem rdNumber2 (r : Nat) (q : Rs) (hs : q.s.length ≤ 140737488355328) (w : World) (hR : RdAt r q w) :
    Calls Try.prog 75 #[.pointer (some ⟨r, 0, none⟩), .int .i64 2] w (RdEnd w r (.int .u64 (numV q 2 : Nat)) (rawS q 2)) := rdNumber_any r q 2 (by omega) hs w hR
theorem rdNumber1 (r : Nat) (q : Rs) (hs : q.s.length ≤ 140737488355328) (w : World) (hR : RdAt r q w) :
    Calls Try.prog 75 #[.pointer (some ⟨r, 0, none⟩), .int .i64 1] w (RdEnd w r (.int .u64 (numV q 1 : Nat)) (rawS q 1)) := rdNumber_any r q 1 (by omega) hs w hR

theorem two_any (r : Nat) (q : Rs) (hs : q.s.length ≤ 140737488355328) (w : World) (hR : RdAt r q w) :
    Calls Try.prog 65 #[.pointer (some ⟨r, 0, none⟩)] w (RdEnd w r (.int .i64 (numV q 2 : Nat)) (rawS q 2)) := by
  have hlt := numV2_lt q
  go_enter Try.func65, Try.ntmps65
  go_wp2_with fail
  refine (rdNumber2 r q hs _ hR).mono ?_
  rintro e w1 ⟨rfl, hr1, hg1⟩
  generalize numV q 2 = n at *
  go_wp2_with fail
  go_ret
  exact ⟨rfl, hr1, hg1⟩
theorem one_any (r : Nat) (q : Rs) (hs : q.s.length ≤ 140737488355328) (w : World) (hR : RdAt r q w) :
    Calls Try.prog 69 #[.pointer (some ⟨r, 0, none⟩)] w (RdEnd w r (.int .i64 (numV q 1 : Nat)) (rawS q 1)) := by
  have hlt := numV1_lt q
  go_enter Try.func69, Try.ntmps69
  go_wp2_with fail
  refine (rdNumber1 r q hs _ hR).mono ?_
  rintro e w1 ⟨rfl, hr1, hg1⟩
  generalize numV q 1 = n at *
  go_wp2_with fail
  go_ret
  exact ⟨rfl, hr1, hg1⟩
theorem word_any (r : Nat) (q : Rs) (hs : q.s.length ≤ 140737488355328) (w : World) (hR : RdAt r q w) :
    Calls Try.prog 71 #[.pointer (some ⟨r, 0, none⟩)] w (RdEnd w r (.int .u16 (numV q 2 : Nat)) (rawS q 2)) := by
  have hlt := numV2_lt q
  go_enter Try.func71, Try.ntmps71
  go_wp2_with fail
  refine (rdNumber2 r q hs _ hR).mono ?_
  rintro e w1 ⟨rfl, hr1, hg1⟩
  generalize numV q 2 = n at *
  have hw : (n : Int) % 65536 = (n : Int) := by omega
  go_wp2_with fail
  go_ret
  exact ⟨by first | rfl | (exact ret1 (vint (by omega))), hr1, hg1⟩
set_option maxHeartbeats 1000000 in
theorem rdTruth_any (r : Nat) (q : Rs) (hs : q.s.length ≤ 140737488355328) (w : World) (hR : RdAt r q w) :
    Calls Try.prog 76 #[.pointer (some ⟨r, 0, none⟩)] w (RdEnd w r (.bool (truthV q)) (truthS q)) := by
  have hlt := numV1_lt q
  have HV := Lib.hid (show truthV q = (numV q 1 == 1) from rfl)
  have HS := Lib.hid (show truthS q = ⟨(rawS q 1).s, (rawS q 1).bad || decide (1 < numV q 1)⟩ from rfl)
  go_enter Try.func76, Try.ntmps76
  go_wp2_with fail
  refine (one_any r q hs _ hR).mono ?_
  rintro e w1 ⟨rfl, hr1, hg1⟩
  have HR1 := Lib.hid hr1
  have HG1 := Lib.hid hg1
  generalize numV q 1 = n at *
  have HEq := Lib.hid (show (n == 1) = ((n : Int) == 1) by rw [Bool.eq_iff_iff]; simp; omega)
  generalize rawS q 1 = q1 at *
  clear hr1 hg1
  obtain ⟨s1, bad⟩ := q1
  have c1 : w1.cell? ⟨r, 1, none⟩ = some (.bool bad) := (HR1.out.cell 1).trans rfl
  have f1 := HR1.out.frozen 1
  cases bad
  case true =>
    go_wp2_with fail
    go_ret
    refine ⟨ret1 (vbool ?_), ?_, grown_set HG1.out _ _⟩
    · rw [HV.out, HEq.out]
    · rw [HS.out]; exact HR1.out.set 1 (.bool true)
  case false =>
    by_cases h : 1 < n
    · go_wp2_with fail
      go_ret
      refine ⟨ret1 (vbool ?_), ?_, grown_set HG1.out _ _⟩
      · rw [HV.out, HEq.out]
      · rw [HS.out, decide_eq_true h, show decide ((1 : Int) < (n : Int)) = true by simp; omega]; exact HR1.out.set 1 (.bool true)
    · go_wp2_with fail
      go_ret
      refine ⟨ret1 (vbool ?_), ?_, grown_set HG1.out _ _⟩
      · rw [HV.out, HEq.out]
      · rw [HS.out, decide_eq_false h, show decide ((1 : Int) < (n : Int)) = false by simp; omega]; exact HR1.out.set 1 (.bool false)

theorem Box.setOther {k : Nat} {cs : Array Value} {T : TypeId} {w : World} (h : Box k cs T w) {p : Nat} (hp : p ≠ k) (i : Nat) (v : Value) : Box k cs T (w.setCell ⟨p, i, none⟩ v) :=
  ⟨(Below.heap_setCell _ _ _ _ (fun e => hp e.symm)).trans h.1, h.2⟩
theorem Box.to {k : Nat} {cs ds : Array Value} {T : TypeId} {w : World} (h : Box k cs T w) (e : cs = ds) : Box k ds T w := e ▸ h
theorem grown_setNew {w w' : World} {r : Option Nat} (h : w.grownBy w' r) {p : Nat} (hp : w.heap.size ≤ p) (i : Nat) (v : Value) : w.grownBy (w'.setCell ⟨p, i, none⟩ v) r := by
  refine ⟨h.os, h.tape, h.output, by simpa using h.size, fun k hk hne => (Below.heap_setCell _ _ _ _ (fun e => ?_)).trans (h.block k hk hne)⟩
  have : k = p := e
  omega
theorem RdAt.other {r : Nat} {q : Rs} {w w' : World} (h : RdAt r q w) (hb : Below w.heap.size w w') : RdAt r q w' := Box.grow h hb

set_option maxHeartbeats 2000000 in
theorem rdProc_any (r : Nat) (q : Rs) (hs : q.s.length ≤ 140737488355328) (w : World) (hR : RdAt r q w) :
    Calls Try.prog 67 #[.pointer (some ⟨r, 0, none⟩)] w (RdEnd w r (procV (procR q).1) (procR q).2) := by
  have hrl := Box.lt hR
  have HA := Lib.hid (alloc_below w (.cells #[.int .i64 0, .int .i64 0, .int .i64 0, .int .i64 0, .int .i64 0, .bool false] 90))
  have HP0 := Lib.hid (Box.new w #[.int .i64 0, .int .i64 0, .int .i64 0, .int .i64 0, .int .i64 0, .bool false] 90 (by decide))
  have HR0 := Lib.hid (hR.other HA.out)
  have HG0 := Lib.hid (grown_below (r := some r) HA.out)
  have hne : w.heap.size ≠ r := by omega
  clear hR
  unfold procR procV
  simp only
  go_enter Try.func67, Try.ntmps67
  go_wp2_with fail
  refine (two_any r q hs _ HR0.out).mono ?_
  rintro e w1 ⟨rfl, hr1, hg1⟩
  have HR1 := Lib.hid hr1
  have HG1 := Lib.hid (HG0.out.trans hg1)
  have HP1 := Lib.hid (HP0.out.other hg1 hne)
  have hs1 : (rawS q 2).s.length ≤ 140737488355328 := Nat.le_trans (rawS_len q 2) hs
  clear hr1 hg1 HR0 HG0 HP0 HA hs
  generalize numV q 2 = n1 at *
  generalize rawS q 2 = q1 at *
  go_wp2_with fail
  refine (two_any r q1 hs1 _ HR1.out).mono ?_
  rintro e w2 ⟨rfl, hr1, hg1⟩
  have HR2 := Lib.hid hr1
  have HG2 := Lib.hid (HG1.out.trans hg1)
  have HP2 := Lib.hid (HP1.out.other hg1 hne)
  have hs2 : (rawS q1 2).s.length ≤ 140737488355328 := Nat.le_trans (rawS_len q1 2) hs1
  clear hr1 hg1 HR1 HG1 HP1 hs1
  generalize numV q1 2 = n2 at *
  generalize rawS q1 2 = q2 at *
  go_wp2_with fail
  refine (two_any r q2 hs2 _ HR2.out).mono ?_
  rintro e w3 ⟨rfl, hr1, hg1⟩
  have HR3 := Lib.hid hr1
  have HG3 := Lib.hid (HG2.out.trans hg1)
  have HP3 := Lib.hid (HP2.out.other hg1 hne)
  have hs3 : (rawS q2 2).s.length ≤ 140737488355328 := Nat.le_trans (rawS_len q2 2) hs2
  clear hr1 hg1 HR2 HG2 HP2 hs2
  generalize numV q2 2 = n3 at *
  generalize rawS q2 2 = q3 at *
  go_wp2_with fail
  refine (two_any r q3 hs3 _ HR3.out).mono ?_
  rintro e w4 ⟨rfl, hr1, hg1⟩
  have HR4 := Lib.hid hr1
  have HG4 := Lib.hid (HG3.out.trans hg1)
  have HP4 := Lib.hid (HP3.out.other hg1 hne)
  have hs4 : (rawS q3 2).s.length ≤ 140737488355328 := Nat.le_trans (rawS_len q3 2) hs3
  clear hr1 hg1 HR3 HG3 HP3 hs3
  generalize numV q3 2 = n4 at *
  generalize rawS q3 2 = q4 at *
  have c0 : w4.cell? ⟨w.heap.size, 0, none⟩ = some (.int .i64 0) := (HP4.out.cell 0).trans rfl
  have c1 : w4.cell? ⟨w.heap.size, 1, none⟩ = some (.int .i64 0) := (HP4.out.cell 1).trans rfl
  have c2 : w4.cell? ⟨w.heap.size, 2, none⟩ = some (.int .i64 0) := (HP4.out.cell 2).trans rfl
  have c3 : w4.cell? ⟨w.heap.size, 3, none⟩ = some (.int .i64 0) := (HP4.out.cell 3).trans rfl
  have f0 := HP4.out.frozen 0
  have f1 := HP4.out.frozen 1
  have f2 := HP4.out.frozen 2
  have f3 := HP4.out.frozen 3
  go_wp2_with fail
  have HPa0 := Lib.hid ((HP4.out.set 0 (.int .i64 n1)).to (ds := #[.int .i64 n1, .int .i64 0, .int .i64 0, .int .i64 0, .int .i64 0, .bool false]) (by simp))
  have HPa1 := Lib.hid ((HPa0.out.set 1 (.int .i64 n2)).to (ds := #[.int .i64 n1, .int .i64 n2, .int .i64 0, .int .i64 0, .int .i64 0, .bool false]) (by simp))
  have HPa2 := Lib.hid ((HPa1.out.set 2 (.int .i64 n3)).to (ds := #[.int .i64 n1, .int .i64 n2, .int .i64 n3, .int .i64 0, .int .i64 0, .bool false]) (by simp))
  have HPa3 := Lib.hid ((HPa2.out.set 3 (.int .i64 n4)).to (ds := #[.int .i64 n1, .int .i64 n2, .int .i64 n3, .int .i64 n4, .int .i64 0, .bool false]) (by simp))
  have HP5 := HPa3
  clear HPa0 HPa1 HPa2 HPa3
  have HR5 := Lib.hid (show RdAt r q4 _ from ((((HR4.out.setOther hne 0 (.int .i64 n1)).setOther hne 1 (.int .i64 n2)).setOther hne 2 (.int .i64 n3)).setOther hne 3 (.int .i64 n4)))
  have HG5 := Lib.hid (grown_setNew (grown_setNew (grown_setNew (grown_setNew HG4.out (Nat.le_refl _) 0 (.int .i64 n1)) (Nat.le_refl _) 1 (.int .i64 n2)) (Nat.le_refl _) 2 (.int .i64 n3)) (Nat.le_refl _) 3 (.int .i64 n4))
  clear c0 c1 c2 c3 f0 f1 f2 f3 HP4 HR4 HG4
  generalize World.setCell (World.setCell (World.setCell (World.setCell w4 ⟨w.heap.size, 0, none⟩ (.int .i64 n1)) ⟨w.heap.size, 1, none⟩ (.int .i64 n2)) ⟨w.heap.size, 2, none⟩ (.int .i64 n3)) ⟨w.heap.size, 3, none⟩ (.int .i64 n4) = w5 at *
  refine (one_any r q4 hs4 _ HR5.out).mono ?_
  rintro e w6 ⟨rfl, hr1, hg1⟩
  have HR6 := Lib.hid hr1
  have HG6 := Lib.hid (HG5.out.trans hg1)
  have HP6 := Lib.hid (HP5.out.other hg1 hne)
  have hs6 : (rawS q4 1).s.length ≤ 140737488355328 := Nat.le_trans (rawS_len q4 1) hs4
  clear hr1 hg1 HR5 HG5 HP5 hs4
  generalize numV q4 1 = n5 at *
  generalize rawS q4 1 = q5 at *
  go_wp2_with fail
  refine (rdTruth_any r q5 hs6 _ HR6.out).mono ?_
  rintro e w7 ⟨rfl, hr1, hg1⟩
  have HR7 := Lib.hid hr1
  have HG7 := Lib.hid (HG6.out.trans hg1)
  have HP7 := Lib.hid (HP6.out.other hg1 hne)
  clear hr1 hg1 HR6 HG6 HP6
  generalize truthV q5 = tf at *
  generalize truthS q5 = q7 at *
  have c0 : w7.cell? ⟨w.heap.size, 0, none⟩ = some (.int .i64 n1) := (HP7.out.cell 0).trans rfl
  have c1 : w7.cell? ⟨w.heap.size, 1, none⟩ = some (.int .i64 n2) := (HP7.out.cell 1).trans rfl
  have c2 : w7.cell? ⟨w.heap.size, 2, none⟩ = some (.int .i64 n3) := (HP7.out.cell 2).trans rfl
  have c3 : w7.cell? ⟨w.heap.size, 3, none⟩ = some (.int .i64 n4) := (HP7.out.cell 3).trans rfl
  have c4 : w7.cell? ⟨w.heap.size, 4, none⟩ = some (.int .i64 0) := (HP7.out.cell 4).trans rfl
  have c5 : w7.cell? ⟨w.heap.size, 5, none⟩ = some (.bool false) := (HP7.out.cell 5).trans rfl
  have f0 := HP7.out.frozen 0
  have f1 := HP7.out.frozen 1
  have f2 := HP7.out.frozen 2
  have f3 := HP7.out.frozen 3
  have f4 := HP7.out.frozen 4
  have f5 := HP7.out.frozen 5
  go_wp2_with fail
  have HPb0 := Lib.hid ((HP7.out.set 4 (.int .i64 n5)).to (ds := #[.int .i64 n1, .int .i64 n2, .int .i64 n3, .int .i64 n4, .int .i64 n5, .bool false]) (by simp))
  have HPb1 := Lib.hid ((HPb0.out.set 5 (.bool tf)).to (ds := #[.int .i64 n1, .int .i64 n2, .int .i64 n3, .int .i64 n4, .int .i64 n5, .bool tf]) (by simp))
  have HPb2 := Lib.hid ((HPb1.out.set 0 (.int .i64 n1)).to (ds := #[.int .i64 n1, .int .i64 n2, .int .i64 n3, .int .i64 n4, .int .i64 n5, .bool tf]) (by simp))
  have HPb3 := Lib.hid ((HPb2.out.set 1 (.int .i64 n2)).to (ds := #[.int .i64 n1, .int .i64 n2, .int .i64 n3, .int .i64 n4, .int .i64 n5, .bool tf]) (by simp))
  have HPb4 := Lib.hid ((HPb3.out.set 2 (.int .i64 n3)).to (ds := #[.int .i64 n1, .int .i64 n2, .int .i64 n3, .int .i64 n4, .int .i64 n5, .bool tf]) (by simp))
  have HPb5 := Lib.hid ((HPb4.out.set 3 (.int .i64 n4)).to (ds := #[.int .i64 n1, .int .i64 n2, .int .i64 n3, .int .i64 n4, .int .i64 n5, .bool tf]) (by simp))
  have HPb6 := Lib.hid ((HPb5.out.set 4 (.int .i64 n5)).to (ds := #[.int .i64 n1, .int .i64 n2, .int .i64 n3, .int .i64 n4, .int .i64 n5, .bool tf]) (by simp))
  have HPb7 := Lib.hid ((HPb6.out.set 5 (.bool tf)).to (ds := #[.int .i64 n1, .int .i64 n2, .int .i64 n3, .int .i64 n4, .int .i64 n5, .bool tf]) (by simp))
  have HP8 := HPb7
  clear HPb0 HPb1 HPb2 HPb3 HPb4 HPb5 HPb6 HPb7
  have HR8 := Lib.hid (show RdAt r q7 (World.setCell (World.setCell (World.setCell (World.setCell (World.setCell (World.setCell (World.setCell (World.setCell w7 ⟨w.heap.size, 4, none⟩ (.int .i64 n5)) ⟨w.heap.size, 5, none⟩ (.bool tf)) ⟨w.heap.size, 0, none⟩ (.int .i64 n1)) ⟨w.heap.size, 1, none⟩ (.int .i64 n2)) ⟨w.heap.size, 2, none⟩ (.int .i64 n3)) ⟨w.heap.size, 3, none⟩ (.int .i64 n4)) ⟨w.heap.size, 4, none⟩ (.int .i64 n5)) ⟨w.heap.size, 5, none⟩ (.bool tf)) from ((((((((HR7.out.setOther hne 4 (.int .i64 n5)).setOther hne 5 (.bool tf)).setOther hne 0 (.int .i64 n1)).setOther hne 1 (.int .i64 n2)).setOther hne 2 (.int .i64 n3)).setOther hne 3 (.int .i64 n4)).setOther hne 4 (.int .i64 n5)).setOther hne 5 (.bool tf)))
  have HG8 := Lib.hid (show w.grownBy (World.setCell (World.setCell (World.setCell (World.setCell (World.setCell (World.setCell (World.setCell (World.setCell w7 ⟨w.heap.size, 4, none⟩ (.int .i64 n5)) ⟨w.heap.size, 5, none⟩ (.bool tf)) ⟨w.heap.size, 0, none⟩ (.int .i64 n1)) ⟨w.heap.size, 1, none⟩ (.int .i64 n2)) ⟨w.heap.size, 2, none⟩ (.int .i64 n3)) ⟨w.heap.size, 3, none⟩ (.int .i64 n4)) ⟨w.heap.size, 4, none⟩ (.int .i64 n5)) ⟨w.heap.size, 5, none⟩ (.bool tf)) (some r) from (grown_setNew (grown_setNew (grown_setNew (grown_setNew (grown_setNew (grown_setNew (grown_setNew (grown_setNew HG7.out (Nat.le_refl _) 4 (.int .i64 n5)) (Nat.le_refl _) 5 (.bool tf)) (Nat.le_refl _) 0 (.int .i64 n1)) (Nat.le_refl _) 1 (.int .i64 n2)) (Nat.le_refl _) 2 (.int .i64 n3)) (Nat.le_refl _) 3 (.int .i64 n4)) (Nat.le_refl _) 4 (.int .i64 n5)) (Nat.le_refl _) 5 (.bool tf)))
  clear c0 c1 c2 c3 c4 c5 f0 f1 f2 f3 f4 f5 HP7 HR7 HG7
  generalize World.setCell (World.setCell (World.setCell (World.setCell (World.setCell (World.setCell (World.setCell (World.setCell w7 ⟨w.heap.size, 4, none⟩ (.int .i64 n5)) ⟨w.heap.size, 5, none⟩ (.bool tf)) ⟨w.heap.size, 0, none⟩ (.int .i64 n1)) ⟨w.heap.size, 1, none⟩ (.int .i64 n2)) ⟨w.heap.size, 2, none⟩ (.int .i64 n3)) ⟨w.heap.size, 3, none⟩ (.int .i64 n4)) ⟨w.heap.size, 4, none⟩ (.int .i64 n5)) ⟨w.heap.size, 5, none⟩ (.bool tf) = w8 at *
  have c0 : w8.cell? ⟨w.heap.size, 0, none⟩ = some (.int .i64 n1) := (HP8.out.cell 0).trans rfl
  have c1 : w8.cell? ⟨w.heap.size, 1, none⟩ = some (.int .i64 n2) := (HP8.out.cell 1).trans rfl
  have c2 : w8.cell? ⟨w.heap.size, 2, none⟩ = some (.int .i64 n3) := (HP8.out.cell 2).trans rfl
  have c3 : w8.cell? ⟨w.heap.size, 3, none⟩ = some (.int .i64 n4) := (HP8.out.cell 3).trans rfl
  have c4 : w8.cell? ⟨w.heap.size, 4, none⟩ = some (.int .i64 n5) := (HP8.out.cell 4).trans rfl
  have c5 : w8.cell? ⟨w.heap.size, 5, none⟩ = some (.bool tf) := (HP8.out.cell 5).trans rfl
  refine bodyPost_ret (v := .agg #[.int .i64 n1, .int .i64 n2, .int .i64 n3, .int .i64 n4, .int .i64 n5, .bool tf]) (by simp [results, Try.results67, go_sem, c0, c1, c2, c3, c4, c5]) rfl ⟨rfl, HR8.out, HG8.out⟩
end Go.Proofs.Ytckbfocbainlpaa
