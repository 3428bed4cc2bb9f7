/- The closure of code.Decode that reads a number. -/
import Derived.Test.YtgcmenjpcgdikaaDoorCj
import Derived.Test.YtgcmenjpcgdikaaDoorPn
import Derived.Lib.ConvBytes
namespace Go.Proofs.YtgcmenjpcgdikaaDoor
open Go.RowKit
set_option maxRecDepth 100000

theorem conv_bytes (X : World) (s : ByteArray) : ∃ capn wb, (convert 9 50 (.string s)).run Tryd.prog X = .ok (.slice (some ⟨X.heap.size, 0, none⟩) s.size capn) wb ∧
    Below X.heap.size X wb ∧ wb.heap.size = X.heap.size + 1 ∧ ∀ j, j < s.size → wb.cell? ⟨X.heap.size, j, none⟩ = some (.int .u8 (s.data.toList.getD j 0).toNat) :=
  ⟨_, _, Lib.run_convert_string_bytes X 9 50 5 s Tryd.underlying9 Tryd.underlying50 Tryd.underlying5,
    ⟨rfl, rfl, rfl, by rw [Lib.bytesWorld_size]; omega, fun k hk => Lib.bytesWorld_at_old X _ s k hk⟩, Lib.bytesWorld_size _ _ _, fun j hj => Lib.bytesWorld_cell X _ s j hj⟩

set_option maxHeartbeats 600000 in
theorem read_bad (lo hi sz : Int) (bb sb nb : Nat) (s : List UInt8) (nx : Nat) (bad : Bool) (w : World) (h : bad = true ∨ (s.length : Int) - nx < sz) (hs : s.length ≤ 4294967296) (hn : nx ≤ s.length)
    (c0 : w.cell? ⟨bb, 0, none⟩ = some (.bool bad)) (c1 : w.cell? ⟨sb, 0, none⟩ = some (.string ⟨s.toArray⟩)) (c2 : w.cell? ⟨nb, 0, none⟩ = some (.int .i64 nx)) (f0 : w.frozen? ⟨bb, 0, none⟩ = false)
    (hb0 : bb < w.heap.size) (hb1 : sb < w.heap.size) (hb2 : nb < w.heap.size) :
    Calls Tryd.prog 26 #[.agg #[.int .i64 lo, .int .i64 hi, .int .i64 sz], .pointer (some ⟨bb, 0, none⟩), .pointer (some ⟨sb, 0, none⟩), .pointer (some ⟨nb, 0, none⟩)] w fun e w' =>
      e = .returned (.int .i64 0) ∧ Below w.heap.size (w.setCell ⟨bb, 0, none⟩ (.bool true)) w' := by
  have hz : (w.setCell ⟨bb, 0, none⟩ (.bool true)).heap.size = w.heap.size := by simp
  have HZ := Lib.hid hz
  clear hz
  by_cases hbad : bad = true
  · subst hbad
    go_enter Tryd.func26, Tryd.ntmps26
    go_wp2_with fail
    go_ret
    exact ⟨rfl, (Below.refl _ _).alloc (by rw [HZ.out]; exact Nat.le_refl _) _⟩
  · have hf : bad = false := by simpa using hbad
    subst hf
    have hd : decide ((s.length : Int) - nx < sz) = true := by
      rcases h with h | h
      · cases h
      · simpa using h
    clear h hbad
    go_enter Tryd.func26, Tryd.ntmps26
    go_wp2_with fail
    go_ret
    exact ⟨rfl, (Below.refl _ _).alloc (by rw [HZ.out]; exact Nat.le_refl _) _⟩

theorem set_same {c : Array Value} {o : Nat} {v : Value} (h : c[o]? = some v) : c.setIfInBounds o v = c := by
  apply Array.ext_getElem?
  intro j
  rw [Array.getElem?_setIfInBounds]
  split
  · rename_i e
    subst e
    rw [if_pos (lt_of_get h), h]
  · rfl
theorem setCell_same {w : World} {a : Addr} {v : Value} (h : w.cell? a = some v) : w.setCell a v = w := by
  have hh : (w.setCell a v).heap = w.heap := by
    unfold World.setCell
    simp only
    apply Array.ext_getElem?
    intro i
    rw [Array.getElem?_modify]
    split
    · rename_i hi
      subst hi
      unfold World.cell? at h
      cases hb : w.heap[a.block]? with
      | none => rfl
      | some o =>
        rw [hb] at h
        cases o with
        | cells c t fz =>
          simp only [Option.map_some]
          by_cases hs : a.spot.isSome = true
          · simp [hs]
          · simp only [hs] at h ⊢
            simp only [if_false, Bool.false_eq_true] at h ⊢
            rw [set_same h]
        | _ => rfl
    · rfl
  show ({ w with heap := (w.setCell a v).heap } : World) = w
  rw [hh]
theorem below_set {B : Nat} {w w' : World} (h : Below B w w') (p : Addr) (v : Value) (hp : p.block < w.heap.size) : Below B (w.setCell p v) (w'.setCell p v) := by
  refine ⟨h.os, h.tape, h.output, by simpa using h.size, fun k hk => ?_⟩
  unfold World.setCell
  simp only [Array.getElem?_modify]
  rw [h.block k hk]

theorem or_i64 (a b : Nat) (ha : a < 4294967296) (hb : b < 4294967296) : bits .or .i64 (a : Int) (b : Int) = ((a ||| b : Nat) : Int) := by
  have hx : a ||| b < 2 ^ 32 := Nat.or_lt_two_pow (by omega) (by omega)
  show IntKind.i64.wrap ((BitVec.ofInt 64 (a : Int) ||| BitVec.ofInt 64 (b : Int)).toNat : Int) = _
  rw [BitVec.toNat_or, ofInt_u64 a (by omega), ofInt_u64 b (by omega)]
  exact IntWalk.i64_in _ (by omega)
theorem or_zero_i64 (b : Nat) (hb : b < 256) : bits .or .i64 0 (b : Int) = (b : Int) := by
  have := or_i64 0 b (by omega) (by omega)
  simpa using this
theorem or_two_i64 (a b : Nat) (ha : a < 256) (hb : b < 256) : bits .or .i64 ((a : Int) * 256) (b : Int) = (a : Int) * 256 + b := by
  have h := or_i64 (a * 256) b (by omega) (by omega)
  have e : a * 256 ||| b = a * 256 + b := by
    have := Nat.shiftLeft_add_eq_or_of_lt (i := 8) (b := b) (by omega) a
    simpa [Nat.shiftLeft_eq] using this.symm
  rw [e] at h
  have e2 : ((a * 256 : Nat) : Int) = (a : Int) * 256 := by omega
  rw [e2] at h
  rw [h]
  omega
theorem ext_at (s : List UInt8) (nx sz j : Nat) (hj : j < sz) : ((⟨s.toArray⟩ : ByteArray).extract nx (nx + sz)).data.toList.getD j 0 = s.getD (nx + j) 0 := by
  rw [Lib.extract_data]
  simp [List.getD_eq_getElem?_getD, List.getElem?_take, hj]
/-- How the reading of a number ends: its value, the place behind it. -/
def ReadEnd (w : World) (nb nx : Nat) (v : Int) (e : Ending) (w' : World) : Prop := e = .returned (.int .i64 v) ∧ Below w.heap.size (w.setCell ⟨nb, 0, none⟩ (.int .i64 nx)) w'
def beTo (a b : Int) : Nat → Int
  | 0 => 0
  | 1 => a
  | _ => a * 256 + b

set_option maxHeartbeats 600000 in
theorem read_ok (lo hi : Int) (sz : Nat) (hsz : sz = 1 ∨ sz = 2) (bb sb nb : Nat) (s : List UInt8) (nx : Nat) (w : World) (hs : s.length ≤ 4294967296) (hn : nx + sz ≤ s.length) (hh : 0 ≤ hi) (hh2 : hi ≤ 65535)
    (c0 : w.cell? ⟨bb, 0, none⟩ = some (.bool false)) (c1 : w.cell? ⟨sb, 0, none⟩ = some (.string ⟨s.toArray⟩)) (c2 : w.cell? ⟨nb, 0, none⟩ = some (.int .i64 nx)) (f0 : w.frozen? ⟨bb, 0, none⟩ = false) (f2 : w.frozen? ⟨nb, 0, none⟩ = false)
    (hb0 : bb < w.heap.size) (hb1 : sb < w.heap.size) (hb2 : nb < w.heap.size) (x0 x1 : Nat) (hx0 : (s.getD nx 0).toNat = x0) (hx1 : (s.getD (nx + 1) 0).toNat = x1) (v : Int) (hval : v = if hi < beTo x0 x1 sz then beTo x0 x1 sz - 65536 else beTo x0 x1 sz) :
    Calls Tryd.prog 26 #[.agg #[.int .i64 lo, .int .i64 hi, .int .i64 sz], .pointer (some ⟨bb, 0, none⟩), .pointer (some ⟨sb, 0, none⟩), .pointer (some ⟨nb, 0, none⟩)] w (ReadEnd w nb (nx + sz) v) := by
  have HVAL := Lib.hid hval
  have b0 := (s.getD nx 0).toNat_lt
  have b1 := (s.getD (nx + 1) 0).toNat_lt
  rw [hx0] at b0
  rw [hx1] at b1
  have HX0 := Lib.hid hx0
  have HX1 := Lib.hid hx1
  clear hval hx0 hx1
  have hv := setCell_same c0
  have hd : decide ((s.length : Int) - nx < sz) = false := by simp; omega
  obtain ⟨capn, wb, hconv, hbw, hzw, hcells⟩ := conv_bytes (w.alloc (.cells #[.int .i64 lo, .int .i64 hi, .int .i64 sz] 56)) ((⟨s.toArray⟩ : ByteArray).extract nx (nx + sz))
  have HBW := Lib.hid hbw
  have HZW := Lib.hid hzw
  have HC := Lib.hid hcells
  clear hbw hzw hcells
  go_enter Tryd.func26, Tryd.ntmps26
  go_wp2_with fail
  have hx : ((⟨s.toArray⟩ : ByteArray).extract nx (nx + sz)).size = sz := by simp [ByteArray.size]; omega
  have HX := Lib.hid hx
  clear hx
  have e0 : wb.cell? ⟨w.heap.size + 1, 0, none⟩ = some (.int .u8 x0) := by
    have := HC.out 0 (by rw [HX.out]; omega)
    rw [ext_at s nx sz 0 (by omega)] at this
    rw [← HX0.out]
    simpa using this
  have e1 : sz = 2 → wb.cell? ⟨w.heap.size + 1, 1, none⟩ = some (.int .u8 x1) := by
    intro h2
    have := HC.out 1 (by rw [HX.out]; omega)
    rw [ext_at s nx sz 1 (by omega)] at this
    rw [← HX1.out]
    simpa using this
  have e2 := box_cell HBW.out 0
  have e3 := box_cell HBW.out 1
  have e4 := box_cell HBW.out 2
  obtain ⟨hbw2, hz2⟩ := box_below HBW.out
  have e5 : wb.cell? ⟨nb, 0, none⟩ = some (.int .i64 nx) := (hbw2.cell (p := ⟨nb, 0, none⟩) hb2).trans c2
  have e6 : wb.frozen? ⟨nb, 0, none⟩ = false := (hbw2.frozen (p := ⟨nb, 0, none⟩) hb2).trans f2
  simp at e2 e3 e4
  have HB2 := Lib.hid hbw2
  have HV := Lib.hid hv
  clear HC HX HBW HZW hconv hbw2 hv c0 c1 c2 f0 f2
  go_loopg [5, 28] sz (fun g n i wr => ∃ k : Nat, k + g = sz ∧ i = .int .i64 k ∧ n = .int .i64 (beTo x0 x1 k) ∧ wr = wb)
  case atStart => exact ⟨0, by omega, rfl, rfl, rfl⟩
  case round =>
    obtain ⟨k, hk, rfl, rfl, rfl⟩ := hrel
    by_cases hlt : k < sz
    · have hkI : (k : Int) < (sz : Int) := by omega
      have hk2 : k = 0 ∨ k = 1 := by omega
      rcases hk2 with rfl | rfl
      · rw [show beTo (x0 : Int) (x1 : Int) 0 = 0 from rfl]
        clear e1 e5 e6 e2 e3 e4
        go_wp2_with fail
        go_roundg (gk - 1)
        case measure => omega
        case rel => exact ⟨1, by omega, rfl, by rw [or_zero_i64 x0 (by omega)]; rfl, rfl⟩
      · rw [show beTo (x0 : Int) (x1 : Int) 1 = x0 from rfl]
        have e1 := e1 (by omega)
        have d1 : decide ((1 : Int) < (sz : Int)) = true := by simp; omega
        clear e0 e5 e6 e2 e3 e4
        go_wp2_with fail
        go_roundg (gk - 1)
        case measure => omega
        case rel => exact ⟨2, by omega, rfl, by rw [or_two_i64 x0 x1 (by omega) (by omega)]; rfl, rfl⟩
    · obtain rfl : k = sz := by omega
      have hB : 0 ≤ beTo x0 x1 k ∧ beTo x0 x1 k ≤ 65535 := by
        rcases hsz with rfl | rfl
        · show (0 : Int) ≤ x0 ∧ (x0 : Int) ≤ 65535; omega
        · show (0 : Int) ≤ (x0 : Int) * 256 + x1 ∧ (x0 : Int) * 256 + x1 ≤ 65535; omega
      obtain ⟨hB1, hB2⟩ := hB
      have HSZ := Lib.hid hsz
      clear e0 e1 hlt hk hsz
      generalize beTo (x0 : Int) (x1 : Int) k = y at *
      by_cases hy : hi < y
      · have d1 : decide (hi < y) = true := by simpa using hy
        go_wp2_with fail
        go_ret
        exact ⟨by rw [HVAL.out, if_pos hy]; rfl, below_set HB2.out _ _ hb2⟩
      · have d1 : decide (hi < y) = false := by simpa using hy
        go_wp2_with fail
        go_ret
        exact ⟨by rw [HVAL.out, if_neg (by omega)]; rfl, below_set HB2.out _ _ hb2⟩
end Go.Proofs.YtgcmenjpcgdikaaDoor
