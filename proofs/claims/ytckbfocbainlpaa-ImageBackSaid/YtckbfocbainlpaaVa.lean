/- obj.reader's raw, number, two, one, word, truth. Condition: what lies in memory can lie there. -/
import Derived.Test.YtckbfocbainlpaaOd
import Derived.Lib.ConvBytes
namespace Go.Proofs.Ytckbfocbainlpaa
open Go.RowKit
set_option maxRecDepth 100000

theorem ext_at (s : List UInt8) (a b : Nat) : ByteArray.extract ⟨s.toArray⟩ a b = ⟨((s.take b).drop a).toArray⟩ := by
  apply ByteArray.ext
  rw [ByteArray.data_extract]
  simp [List.drop_take]
theorem ext_take (s : List UInt8) (n : Nat) : ByteArray.extract ⟨s.toArray⟩ 0 n = ⟨(s.take n).toArray⟩ := by rw [ext_at]; rfl
theorem ext_drop (s : List UInt8) (n : Nat) : ByteArray.extract ⟨s.toArray⟩ n s.length = ⟨(s.drop n).toArray⟩ := by rw [ext_at, List.take_length]
/-- A reader that stands at block r. -/
def RdAt (r : Nat) (q : Rs) (W : World) : Prop := Box r #[.string ⟨q.s.toArray⟩, .bool q.bad] 108 W
theorem Box.set {k : Nat} {cs : Array Value} {T : TypeId} {w : World} (h : Box k cs T w) (i : Nat) (v : Value) : Box k (cs.setIfInBounds i v) T (w.setCell ⟨k, i, none⟩ v) := ⟨set_block h.1 v, h.2⟩
theorem grown_refl (w : World) (b : Option Nat) : w.grownBy w b := ⟨rfl, rfl, rfl, Nat.le_refl _, fun _ _ _ => rfl⟩
theorem grown_set {w w' : World} {r : Nat} (h : w.grownBy w' (some r)) (i : Nat) (v : Value) : w.grownBy (w'.setCell ⟨r, i, none⟩ v) (some r) :=
  h.trans ⟨rfl, rfl, rfl, by simp, fun k _ hk => Below.heap_setCell _ _ _ _ (fun e => hk (congrArg some e))⟩
theorem grown_below {w w' : World} {r : Option Nat} (h : Below w.heap.size w w') : w.grownBy w' r := ⟨h.os, h.tape, h.output, h.size, fun k hk _ => h.block k hk⟩
/-- What is new but the reader's block. -/
theorem Box.other {k : Nat} {cs : Array Value} {T : TypeId} {w w' : World} {r : Nat} (h : Box k cs T w) (hg : w.grownBy w' (some r)) (hk : k ≠ r) : Box k cs T w' :=
  ⟨(hg.block k h.lt (fun e => hk (Option.some.inj e))).trans h.1, h.2⟩
/-- How a reading ends. -/
def RdEnd (w : World) (r : Nat) (v : Value) (q : Rs) (e : Ending) (w' : World) : Prop := e = .returned v ∧ RdAt r q w' ∧ w.grownBy w' (some r)

set_option maxHeartbeats 1000000 in
theorem raw_any (r : Nat) (q : Rs) (n : Nat) (hn : n ≤ 140737488355328) (hs : q.s.length ≤ 140737488355328) (w : World) (hR : RdAt r q w) :
    Calls Try.prog 64 #[.pointer (some ⟨r, 0, none⟩), .int .i64 n] w (RdEnd w r (.string ⟨(rawV q n).toArray⟩) (rawS q n)) := by
  obtain ⟨s, bad⟩ := q
  have HR := Lib.hid hR
  have c0 : w.cell? ⟨r, 0, none⟩ = some (.string ⟨s.toArray⟩) := (hR.cell 0).trans rfl
  have c1 : w.cell? ⟨r, 1, none⟩ = some (.bool bad) := (hR.cell 1).trans rfl
  have f0 := hR.frozen 0
  have f1 := hR.frozen 1
  clear hR
  cases bad
  case true =>
    go_enter Try.func64, Try.ntmps64
    go_wp2_with fail
    go_ret
    exact ⟨rfl, HR.out.set 1 (.bool true), grown_set (grown_refl _ _) _ _⟩
  by_cases h : s.length < n
  · have HV := Lib.hid (show rawV ⟨s, false⟩ n = [] by unfold rawV overB; rw [decide_eq_true h]; rfl)
    have HS := Lib.hid (show rawS ⟨s, false⟩ n = ⟨s, true⟩ by unfold rawS overB; rw [decide_eq_true h]; rfl)
    have hI : (s.length : Int) < (n : Int) := by omega
    go_enter Try.func64, Try.ntmps64
    go_wp2_with fail
    go_ret
    rw [HV.out, HS.out]
    exact ⟨rfl, HR.out.set 1 (.bool true), grown_set (grown_refl _ _) _ _⟩
  · have HV := Lib.hid (show rawV ⟨s, false⟩ n = s.take n by unfold rawV overB; rw [decide_eq_false h]; rfl)
    have HS := Lib.hid (show rawS ⟨s, false⟩ n = ⟨s.drop n, false⟩ by unfold rawS overB; rw [decide_eq_false h]; rfl)
    have hI : ¬ (s.length : Int) < (n : Int) := by omega
    have hI2 : (n : Int) ≤ (s.length : Int) := by omega
    go_enter Try.func64, Try.ntmps64
    go_wp2_with fail
    go_ret
    rw [HV.out, HS.out]
    rw [ext_drop]
    refine ⟨?_, (HR.out.set 1 (.bool false)).set 0 (.string ⟨(s.drop n).toArray⟩), grown_set (grown_set (grown_refl _ _) _ _) _ _⟩
    show Ending.returned (.string (ByteArray.extract ⟨s.toArray⟩ 0 n)) = _
    rw [ext_take]

theorem toN_take_succ (l : List UInt8) (k : Nat) (hk : k < l.length) : toN (l.take (k + 1)) = toN (l.take k) * 256 + (l.getD k 0).toNat := by
  rw [List.take_succ_eq_append_getElem hk, toN_snoc]
  simp [List.getD_eq_getElem?_getD, hk]
theorem or_u64 (a b : Nat) (ha : a < 18446744073709551616) (hb : b < 18446744073709551616) : bits .or .u64 (a : Int) (b : Int) = ((a ||| b : Nat) : Int) := by
  have hx : a ||| b < 2 ^ 64 := Nat.or_lt_two_pow (by omega) (by omega)
  have back : ∀ n : Nat, n < 18446744073709551616 → (BitVec.ofInt 64 (n : Int)).toNat = n := fun n hn => by
    rw [BitVec.ofInt_natCast, BitVec.toNat_ofNat]; exact Nat.mod_eq_of_lt (by omega)
  show IntKind.u64.wrap ((BitVec.ofInt 64 (a : Int) ||| BitVec.ofInt 64 (b : Int)).toNat : Int) = _
  rw [BitVec.toNat_or, back a ha, back b hb, IntKind.wrap_u64]
  omega
theorem orShl (x : Nat) (hx : x < 72057594037927936) (c : Nat) (hc : c < 256) : bits .or .u64 (((x * 256 : Nat) : Int)) (c : Int) = ((x * 256 + c : Nat) : Int) := by
  rw [or_u64 _ _ (by omega) (by omega)]
  have := Nat.shiftLeft_add_eq_or_of_lt (i := 8) (b := c) (by omega) x
  rw [Nat.shiftLeft_eq] at this
  rw [show x * 256 = x * 2 ^ 8 from rfl, ← this]

set_option maxHeartbeats 1000000 in
theorem rdNumber_any (r : Nat) (q : Rs) (n : Nat) (hn : n ≤ 8) (hs : q.s.length ≤ 140737488355328) (w : World) (hR : RdAt r q w) :
    Calls Try.prog 75 #[.pointer (some ⟨r, 0, none⟩), .int .i64 n] w (RdEnd w r (.int .u64 (numV q n : Nat)) (rawS q n)) := by
  have HR := Lib.hid hR
  clear hR
  go_enter Try.func75, Try.ntmps75
  go_wp2_with fail
  refine (raw_any r q n (by omega) hs _ HR.out).mono ?_
  rintro e w1 ⟨rfl, hr1, hg1⟩
  have HR1 := Lib.hid hr1
  have HG1 := Lib.hid hg1
  have hlen := rawV_len q n
  have HN := Lib.hid (show numV q n = toN (rawV q n) from rfl)
  clear hr1 hg1 HR
  generalize rawV q n = l at *
  have hcv := Lib.run_convert_string_bytes (P := Try.prog) w1 9 51 5 ⟨l.toArray⟩ Try.underlying9 Try.underlying51 Try.underlying5
  have hC := Lib.hid (show ∀ k, k < l.length → (Lib.bytesWorld w1 5 ⟨l.toArray⟩).cell? ⟨w1.heap.size, k, none⟩ = some (.int .u8 (l.getD k 0).toNat) from fun k hk => by
    have := Lib.bytesWorld_cell w1 5 ⟨l.toArray⟩ k (by simpa [ByteArray.size] using hk)
    simpa using this)
  have HB := Lib.hid (show Below w1.heap.size w1 (Lib.bytesWorld w1 5 ⟨l.toArray⟩) from ⟨rfl, rfl, rfl, by rw [Lib.bytesWorld_size]; omega, fun k hk => Lib.bytesWorld_at_old w1 _ _ k hk⟩)
  have hsz : (⟨l.toArray⟩ : ByteArray).size = l.length := by simp [ByteArray.size]
  generalize Lib.bytesWorld w1 5 ⟨l.toArray⟩ = w2 at *
  go_wp2_with fail
  clear hcv
  go_loopg [4, 12] (l.length) (fun g v i wr => ∃ k : Nat, k + g = l.length ∧ i = .int .i64 k ∧ v = .int .u64 ((toN (l.take k) : Nat) : Int) ∧ wr = w2)
  case atStart => exact ⟨0, by omega, rfl, rfl, rfl⟩
  case round =>
    obtain ⟨k, hk, rfl, rfl, rfl⟩ := hrel
    by_cases hlt : k < l.length
    · have c0 := hC.out k hlt
      have HS := Lib.hid (toN_take_succ l k hlt)
      have hx : toN (l.take k) < 72057594037927936 := by
        have h1 := toN_lt (l.take k)
        have h2 : (l.take k).length ≤ 7 := by rw [List.length_take]; omega
        have h3 : 256 ^ (l.take k).length ≤ 256 ^ 7 := Nat.pow_le_pow_right (by omega) h2
        omega
      have hkI : (k : Int) < (l.length : Int) := by omega
      have hu := (l.getD k 0).toNat_lt
      have ho := orShl (toN (l.take k)) hx (l.getD k 0).toNat (by omega)
      generalize toN (l.take k) = x at *
      generalize (l.getD k 0).toNat = c at *
      go_wp2_with fail
      go_roundg (gk - 1)
      case measure => omega
      case rel => exact ⟨k + 1, by omega, by go_num, by rw [HS.out, ← ho]; rfl, rfl⟩
    · obtain rfl : k = l.length := by omega
      rw [List.take_length]
      go_wp2_with fail
      go_ret
      exact ⟨by rw [HN.out]; rfl, HR1.out.grow HB.out, HG1.out.trans (grown_below HB.out)⟩
end Go.Proofs.Ytckbfocbainlpaa
