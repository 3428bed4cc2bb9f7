/- separatumref21's reader: take, num, truth. Condition: what lies in memory can lie there. -/
import Derived.Test.YtckbfocbainlpaaVe
import Derived.Deep.QuietTactic
import Derived.BigQuiet
namespace Go.Proofs.Ytckbfocbainlpaa
open Go.RowKit
set_option maxRecDepth 100000

/-- A reader of the document's that stands at block r, in bytes s: what it has left is q. -/
def RfAt (r : Nat) (s : List UInt8) (q : Rs) (W : World) : Prop := ∃ p : Nat, Box r #[.string ⟨s.toArray⟩, .int .i64 p, .bool q.bad] 112 W ∧ p ≤ s.length ∧ q.s = s.drop p
theorem RfAt.lt {r : Nat} {s : List UInt8} {q : Rs} {W : World} (h : RfAt r s q W) : r < W.heap.size := by obtain ⟨_, h, _⟩ := h; exact h.lt
theorem RfAt.grow {r : Nat} {s : List UInt8} {q : Rs} {w w' : World} (h : RfAt r s q w) (hb : Below w.heap.size w w') : RfAt r s q w' := by
  obtain ⟨p, h, h2⟩ := h; exact ⟨p, h.grow hb, h2⟩
theorem RfAt.setOther {r : Nat} {s : List UInt8} {q : Rs} {w : World} (h : RfAt r s q w) {k : Nat} (hk : k ≠ r) (i : Nat) (v : Value) : RfAt r s q (w.setCell ⟨k, i, none⟩ v) := by
  obtain ⟨p, h, h2⟩ := h; exact ⟨p, h.setOther hk i v, h2⟩
theorem RfAt.bad {r : Nat} {s t : List UInt8} {b : Bool} {w : World} (h : RfAt r s ⟨t, b⟩ w) (c : Bool) : RfAt r s ⟨t, c⟩ (w.setCell ⟨r, 2, none⟩ (.bool c)) := by
  obtain ⟨p, h, h2⟩ := h; exact ⟨p, (h.set 2 (.bool c)).to (by simp), h2⟩
/-- How a reading ends. -/
def RfEnd (w : World) (r : Nat) (s : List UInt8) (v : Value) (q : Rs) (e : Ending) (w' : World) : Prop := e = .returned v ∧ RfAt r s q w' ∧ w.grownBy w' (some r)
theorem RfAt.len {r : Nat} {s : List UInt8} {q : Rs} {W : World} (h : RfAt r s q W) : q.s.length ≤ s.length := by
  obtain ⟨p, _, _, h2⟩ := h; rw [h2, List.length_drop]; omega
theorem drewN_below (w : World) (n : Nat) : Below w.heap.size w (w.drewN n) := below_drawn (Below.refl _ _) n
theorem getB (l : List UInt8) (k : Nat) (h : k < l.length) {hh : k < (⟨l.toArray⟩ : ByteArray).size} : (⟨l.toArray⟩ : ByteArray)[k]'hh = l.getD k 0 := by
  show l.toArray[k] = _
  simp [List.getD_eq_getElem?_getD, h]
theorem ext_sub (s : List UInt8) (p n : Nat) : ByteArray.extract ⟨s.toArray⟩ p (p + n) = ⟨((s.drop p).take n).toArray⟩ := by
  rw [ext_at, List.drop_take, Nat.add_sub_cancel_left]

set_option maxHeartbeats 2000000 in
theorem refTake_any (r : Nat) (s : List UInt8) (q : Rs) (n : Nat) (hn : n ≤ 140737488355328) (hs : s.length ≤ 140737488355328) (w : World) (hR : RfAt r s q w) :
    Calls Try.prog 72 #[.pointer (some ⟨r, 0, none⟩), .int .i64 n] w (RfEnd w r s (.string ⟨(rawV q n).toArray⟩) (rawS q n)) := by
  obtain ⟨t, bad⟩ := q
  obtain ⟨p, hB, hp, ht⟩ := hR
  simp only at ht hB
  have HB := Lib.hid hB
  have HP := Lib.hid hp
  have HT := Lib.hid ht
  have c0 : w.cell? ⟨r, 0, none⟩ = some (.string ⟨s.toArray⟩) := (hB.cell 0).trans rfl
  have c1 : w.cell? ⟨r, 1, none⟩ = some (.int .i64 p) := (hB.cell 1).trans rfl
  have c2 : w.cell? ⟨r, 2, none⟩ = some (.bool bad) := (hB.cell 2).trans rfl
  have f1 := hB.frozen 1
  have f2 := hB.frozen 2
  have hI0 : (p : Int) ≤ (s.length : Int) := by omega
  clear hB ht
  cases bad
  case true =>
    go_enter Try.func72, Try.ntmps72
    go_wp2_with fail
    go_quiet (fail)
    go_wp2_with fail
    go_ret
    exact ⟨rfl, RfAt.bad ⟨p, HB.out.grow (drewN_below w nq), HP.out, HT.out⟩ true, grown_set (grown_below (drewN_below w nq)) 2 _⟩
  by_cases h : s.length < p + n
  · have hl : t.length < n := by rw [HT.out, List.length_drop]; omega
    have HV := Lib.hid (show rawV ⟨t, false⟩ n = [] by unfold rawV overB; rw [decide_eq_true hl]; rfl)
    have HS := Lib.hid (show rawS ⟨t, false⟩ n = ⟨t, true⟩ by unfold rawS overB; rw [decide_eq_true hl]; rfl)
    have hI : (s.length : Int) - (p : Int) < (n : Int) := by omega
    have hI1 : 0 ≤ (s.length : Int) - (p : Int) := by omega
    clear hl h
    go_enter Try.func72, Try.ntmps72
    go_wp2_with fail
    go_quiet (fail)
    go_wp2_with fail
    go_ret
    rw [HV.out, HS.out]
    exact ⟨rfl, RfAt.bad ⟨p, HB.out.grow (drewN_below w nq), HP.out, HT.out⟩ true, grown_set (grown_below (drewN_below w nq)) 2 _⟩
  · have hl : ¬ t.length < n := by rw [HT.out, List.length_drop]; omega
    have HV := Lib.hid (show rawV ⟨t, false⟩ n = t.take n by unfold rawV overB; rw [decide_eq_false hl]; rfl)
    have HS := Lib.hid (show rawS ⟨t, false⟩ n = ⟨t.drop n, false⟩ by unfold rawS overB; rw [decide_eq_false hl]; rfl)
    have hI : ¬ (s.length : Int) - (p : Int) < (n : Int) := by omega
    have hI1 : 0 ≤ (s.length : Int) - (p : Int) := by omega
    have hI2 : (p : Int) + (n : Int) ≤ (s.length : Int) := by omega
    have HE := Lib.hid (show ByteArray.extract ⟨s.toArray⟩ p (p + n) = ⟨(t.take n).toArray⟩ by rw [ext_sub, HT.out])
    have HT2 := Lib.hid (show t.drop n = s.drop (p + n) by rw [HT.out, List.drop_drop])
    have HP2 := Lib.hid (show p + n ≤ s.length by omega)
    clear hl h
    go_enter Try.func72, Try.ntmps72
    go_wp2_with fail
    go_quiet (fail)
    go_wp2_with fail
    go_quiet (fail)
    go_wp2_with fail
    go_ret
    rw [HV.out, HS.out]
    refine ⟨?_, ⟨p + n, Box.grow (Box.to (Box.set (Box.grow HB.out (drewN_below _ _)) 1 _) (by simp)) (drewN_below _ _), HP2.out, HT2.out⟩, (grown_set (grown_below (drewN_below _ _)) 1 _).trans (grown_below (drewN_below _ _))⟩
    show Ending.returned (.string (ByteArray.extract ⟨s.toArray⟩ p (p + n))) = _
    rw [HE.out]

set_option maxHeartbeats 1000000 in
theorem refNum_any (r : Nat) (s : List UInt8) (q : Rs) (n : Nat) (hn : n ≤ 8) (hs : s.length ≤ 140737488355328) (w : World) (hR : RfAt r s q w) :
    Calls Try.prog 73 #[.pointer (some ⟨r, 0, none⟩), .int .i64 n] w (RfEnd w r s (.int .u64 (numV q n : Nat)) (rawS q n)) := by
  have HR := Lib.hid hR
  clear hR
  go_enter Try.func73, Try.ntmps73
  go_wp2_with fail
  refine (refTake_any r s q n (by omega) hs _ HR.out).mono ?_
  rintro e w1 ⟨rfl, hr1, hg1⟩
  have HR1 := Lib.hid hr1
  have HG1 := Lib.hid hg1
  have hlen := rawV_len q n
  have HN := Lib.hid (show numV q n = toN (rawV q n) from rfl)
  clear hr1 hg1 HR
  generalize rawV q n = l at *
  go_wp2_with fail
  go_loopg [6, 7] (l.length) (fun g v i wr => ∃ k : Nat, k + g = l.length ∧ i = .int .i64 k ∧ v = .int .u64 ((toN (l.take k) : Nat) : Int) ∧ wr = w1)
  case atStart => exact ⟨0, by omega, rfl, rfl, rfl⟩
  case round =>
    obtain ⟨k, hk, rfl, rfl, rfl⟩ := hrel
    by_cases hlt : k < l.length
    · have y0 : ∀ hh, (⟨l.toArray⟩ : ByteArray)[k]'hh = l.getD k 0 := fun _ => getB l k hlt
      have HS := Lib.hid (toN_take_succ l k hlt)
      have hx : toN (l.take k) < 72057594037927936 := by
        have h1 := toN_lt (l.take k)
        have h2 : (l.take k).length ≤ 7 := by rw [List.length_take]; omega
        have h3 : 256 ^ (l.take k).length ≤ 256 ^ 7 := Nat.pow_le_pow_right (by omega) h2
        omega
      have hu := (l.getD k 0).toNat_lt
      have g1 : IntKind.u64.wrap (256 * ((toN (l.take k) : Nat) : Int)) = 256 * ((toN (l.take k) : Nat) : Int) := by rw [IntKind.wrap_u64]; omega
      have g2 : IntKind.u64.wrap (256 * ((toN (l.take k) : Nat) : Int) + ((l.getD k 0).toNat : Int)) = 256 * ((toN (l.take k) : Nat) : Int) + ((l.getD k 0).toNat : Int) := by rw [IntKind.wrap_u64]; omega
      have HQ := Lib.hid (show (256 * ((toN (l.take k) : Nat) : Int) + ((l.getD k 0).toNat : Int)) = ((toN (l.take k) * 256 + (l.getD k 0).toNat : Nat) : Int) by omega)
      generalize toN (l.take k) = x at *
      generalize l.getD k 0 = c at *
      go_wp2_with fail
      go_roundg (gk - 1)
      case measure => omega
      case rel => exact ⟨k + 1, by omega, by go_num, by rw [HS.out, ← HQ.out], rfl⟩
    · obtain rfl : k = l.length := by omega
      rw [List.take_length]
      go_wp2_with fail
      go_ret
      exact ⟨by rw [HN.out]; rfl, HR1.out, HG1.out⟩
theorem refNum2 (r : Nat) (s : List UInt8) (q : Rs) (hs : s.length ≤ 140737488355328) (w : World) (hR : RfAt r s q w) :
    Calls Try.prog 73 #[.pointer (some ⟨r, 0, none⟩), .int .i64 2] w (RfEnd w r s (.int .u64 (numV q 2 : Nat)) (rawS q 2)) := refNum_any r s q 2 (by omega) hs w hR
theorem refNum1 (r : Nat) (s : List UInt8) (q : Rs) (hs : s.length ≤ 140737488355328) (w : World) (hR : RfAt r s q w) :
    Calls Try.prog 73 #[.pointer (some ⟨r, 0, none⟩), .int .i64 1] w (RfEnd w r s (.int .u64 (numV q 1 : Nat)) (rawS q 1)) := refNum_any r s q 1 (by omega) hs w hR
set_option maxHeartbeats 1000000 in
theorem refRdTruth_any (r : Nat) (s : List UInt8) (q : Rs) (hs : s.length ≤ 140737488355328) (w : World) (hR : RfAt r s q w) :
    Calls Try.prog 74 #[.pointer (some ⟨r, 0, none⟩)] w (RfEnd w r s (.bool (truthV q)) (truthS q)) := by
  have hlt := numV1_lt q
  have HV := Lib.hid (show truthV q = (numV q 1 == 1) from rfl)
  have HS := Lib.hid (show truthS q = ⟨(rawS q 1).s, (rawS q 1).bad || decide (1 < numV q 1)⟩ from rfl)
  go_enter Try.func74, Try.ntmps74
  go_wp2_with fail
  refine (refNum1 r s q hs _ hR).mono ?_
  rintro e w1 ⟨rfl, hr1, hg1⟩
  have HR1 := Lib.hid hr1
  have HG1 := Lib.hid hg1
  generalize numV q 1 = n at *
  have HEq := Lib.hid (show (n == 1) = ((n : Int) == 1) by rw [Bool.eq_iff_iff]; simp; omega)
  generalize rawS q 1 = q1 at *
  clear hr1 hg1
  obtain ⟨t1, bad⟩ := q1
  have ⟨p, hB, hp, ht⟩ := HR1.out
  have c2 : w1.cell? ⟨r, 2, none⟩ = some (.bool bad) := (hB.cell 2).trans rfl
  have f2 := hB.frozen 2
  clear hB hp ht
  by_cases h : 1 < n
  · have hI : (1 : Int) < (n : Int) := by omega
    go_wp2_with fail
    go_ret
    refine ⟨ret1 (vbool ?_), ?_, grown_set HG1.out _ _⟩
    · rw [HV.out, HEq.out]
    · rw [HS.out, decide_eq_true h, Bool.or_true]; exact HR1.out.bad true
  · have hI : ¬ (1 : Int) < (n : Int) := by omega
    go_wp2_with fail
    go_ret
    refine ⟨ret1 (vbool ?_), ?_, HG1.out⟩
    · rw [HV.out, HEq.out]
    · rw [HS.out, decide_eq_false h, Bool.or_false]; exact HR1.out
end Go.Proofs.Ytckbfocbainlpaa
