/- image.Sizes; Heavy (layer 20's), Large. Condition: what lies in memory can lie there. -/
import Derived.Test.YtckbfocbainlpaaEb
namespace Go.Proofs.Ytckbfocbainlpaa
open Go.RowKit
set_option maxRecDepth 100000

/-- How many bytes of code, how many words of data, as int has it. -/
def codeTo (ms : List ModL) : Nat → Int
  | 0 => 0
  | k + 1 => wrap64 (codeTo ms k + ((ms.getD k default).code.length : Int))
def dataTo (ms : List ModL) : Nat → Int
  | 0 => 0
  | k + 1 => wrap64 (dataTo ms k + (ms.getD k default).data)

theorem codeTo_succ (ms : List ModL) (k : Nat) : codeTo ms (k + 1) = wrap64 (codeTo ms k + ((ms.getD k default).code.length : Int)) := rfl
theorem dataTo_succ (ms : List ModL) (k : Nat) : dataTo ms (k + 1) = wrap64 (dataTo ms k + (ms.getD k default).data) := rfl
set_option maxHeartbeats 1000000 in
theorem sizes_any (s : IS) (i : ImgL) (w : World) (hI : ImgIn w s i) : Calls Try.prog 10 #[imgV s i] w fun e w' => e = .returned (.tuple #[.int .i64 (codeTo i.mods i.mods.length), .int .i64 (dataTo i.mods i.mods.length)]) ∧ Below w.heap.size w w' := by
  have hm := hI.mods_le
  have HI := Lib.hid hI
  clear hI
  unfold imgV
  go_enter Try.func10, Try.ntmps10
  go_wp2_with fail
  go_loopg [2, 3, 10] (i.mods.length) (fun g u v x wr => ∃ k : Nat, k + g = i.mods.length ∧ x = .int .i64 k ∧ u = .int .i64 (codeTo i.mods k) ∧ v = .int .i64 (dataTo i.mods k) ∧ Below w.heap.size w wr)
  case atStart => exact ⟨0, by omega, rfl, rfl, rfl, alloc_below w _⟩
  case round =>
    obtain ⟨k, hk, rfl, rfl, rfl, hb⟩ := hrel
    by_cases hlt : k < i.mods.length
    · obtain ⟨bm, om, hA2, hb2, s2, hM, d0, d1, d2, d3, d4⟩ := Each.at_ (HI.out.mods.later hb (Nat.le_refl _)) hlt
      have H1 := Lib.hid (codeTo_succ i.mods k)
      have H2 := Lib.hid (dataTo_succ i.mods k)
      have hcl := hM.code_le
      have HB := Lib.hid hb
      clear hM hb
      generalize i.mods.getD k default = m at *
      generalize codeTo i.mods k = c at *
      generalize dataTo i.mods k = d at *
      obtain ⟨A1, cc1, A2, cc2, A3, cc3⟩ := s
      simp only at hA2 ⊢
      subst hA2
      have hkI : (k : Int) < (i.mods.length : Int) := by omega
      have HAl := Lib.hid (HB.out.trans ((alloc_below wr (.cells (modCells s2 m) 41)).mono HB.out.size))
      go_wp2_with fail
      go_roundg (gk - 1)
      case measure => omega
      case rel => exact ⟨k + 1, by omega, by go_num, by rw [H1.out], by rw [H2.out], HAl.out⟩
    · obtain rfl : k = i.mods.length := by omega
      have HB := Lib.hid hb
      clear hb
      go_wp2_with fail
      go_ret2
      exact ⟨rfl, HB.out⟩

/-- How a function ends that answers a bool, whichever. -/
def AnyBool (w : World) (e : Ending) (w' : World) : Prop := ∃ b, e = .returned (.bool b) ∧ Below w.heap.size w w'
theorem anyBool {w w' : World} {b : Bool} (h : Below w.heap.size w w') : AnyBool w (.returned (.bool b)) w' := ⟨b, rfl, h⟩

set_option maxHeartbeats 2000000 in
theorem heavy_any (A2 A3 : Option Addr) (c2 c3 : Nat) (ms : List ModL) (no : Nat) (ca cb cc : Int) (t : List UInt8) (fuel : Int) (hms : ms.length ≤ 140737488355328) (ho : no ≤ 140737488355328) (ht : t.length ≤ 140737488355328) (w : World) (hM : Mods w A2 ms) :
    Calls Try.prog 18 #[.agg #[.slice A2 ms.length c2, .slice A3 no c3], .agg #[.int .i64 ca, .int .i64 cb, .int .i64 cc], .string ⟨t.toArray⟩, .int .i64 fuel] w (AnyBool w) := by
  have HM := Lib.hid hM
  clear hM
  have HW := Lib.hid (((Below.refl w.heap.size w).alloc (Nat.le_refl _) (.cells #[.slice A2 ms.length c2, .slice A3 no c3] 26)).alloc (by simp) (.cells #[.int .i64 ca, .int .i64 cb, .int .i64 cc] 55))
  by_cases h1 : 70 < ms.length
  · go_enter Try.func18, Try.ntmps18
    go_wp2_with fail
    go_ret
    exact anyBool HW.out
  by_cases h2 : 100 < no
  · go_enter Try.func18, Try.ntmps18
    go_wp2_with fail
    go_ret
    exact anyBool HW.out
  by_cases h3 : 32768 < t.length
  · go_enter Try.func18, Try.ntmps18
    go_wp2_with fail
    go_ret
    exact anyBool HW.out
  by_cases h4 : 3000 < fuel
  · go_enter Try.func18, Try.ntmps18
    go_wp2_with fail
    go_ret
    exact anyBool HW.out
  go_enter Try.func18, Try.ntmps18
  go_wp2_with fail
  have HX := Lib.hid ((Box.new w #[.slice A2 ms.length c2, .slice A3 no c3] 26 (by decide)).grow (alloc_below _ (.cells #[.int .i64 ca, .int .i64 cb, .int .i64 cc] 55)))
  go_loopg [9, 10] (ms.length) (fun g u x wr => ∃ k : Nat, k + g = ms.length ∧ x = .int .i64 k ∧ (∃ y, u = .int .i64 y) ∧ Box w.heap.size #[.slice A2 ms.length c2, .slice A3 no c3] 26 wr ∧ Below w.heap.size w wr)
  case atStart => exact ⟨0, by omega, rfl, ⟨_, rfl⟩, HX.out, HW.out⟩
  case round =>
    clear HX HW
    obtain ⟨k, hk, rfl, ⟨y, rfl⟩, hX, hb⟩ := hrel
    have HX := Lib.hid hX
    have HB := Lib.hid hb
    have b0 : wr.cell? ⟨w.heap.size, 0, none⟩ = some (.slice A2 ms.length c2) := (hX.cell 0).trans rfl
    by_cases hlt : k < ms.length
    · obtain ⟨bm, om, hA2, hb2, s2, hM, d0, d1, d2, d3, d4⟩ := Each.at_ (HM.out.later hb (Nat.le_refl _)) hlt
      have hcl := hM.code_le
      have hl2 := hM.procs_le
      have hl3 := hM.imports_le
      have hl4 := hM.init_le
      clear hX hb hM
      generalize ms.getD k default = m at *
      subst hA2
      have hkI : (k : Int) < (ms.length : Int) := by omega
      have HAl := Lib.hid (HB.out.trans ((alloc_below wr (.cells (modCells s2 m) 41)).mono HB.out.size))
      have HXl := Lib.hid (HX.out.grow (alloc_below wr (.cells (modCells s2 m) 41)))
      by_cases g1 : 131072 < m.code.length
      · go_wp2_with fail
        go_ret
        exact anyBool HAl.out
      by_cases g2 : 2048 < m.procs.length
      · go_wp2_with fail
        go_ret
        exact anyBool HAl.out
      by_cases g3 : 512 < m.imports.length
      · go_wp2_with fail
        go_ret
        exact anyBool HAl.out
      by_cases g4 : 131072 < m.init.length
      · go_wp2_with fail
        go_ret
        exact anyBool HAl.out
      go_wp2_with fail
      go_roundg (gk - 1)
      case measure => omega
      case rel => exact ⟨k + 1, by omega, by go_num, ⟨_, rfl⟩, HXl.out, HAl.out⟩
    · obtain rfl : k = ms.length := by omega
      clear hX hb
      go_wp2_with fail
      go_ret
      exact anyBool HB.out

set_option maxHeartbeats 1000000 in
theorem large_any (s : IS) (i : ImgL) (w : World) (hI : ImgIn w s i) : Calls Try.prog 6 #[imgV s i] w (AnyBool w) := by
  have hn := hI.names_le
  have hm := hI.mods_le
  have ho := hI.order_le
  have HI := Lib.hid hI
  have HW := Lib.hid (alloc_below w (.cells #[.slice s.A1 i.names.length s.c1, .slice s.A2 i.mods.length s.c2, .slice s.A3 i.order.length s.c3] 28))
  clear hI
  unfold imgV
  by_cases h1 : 70 < i.names.length
  · go_enter Try.func6, Try.ntmps6
    go_wp2_with fail
    go_ret
    exact anyBool HW.out
  go_enter Try.func6, Try.ntmps6
  go_wp2_with fail
  refine (heavy_any s.A2 s.A3 s.c2 s.c3 i.mods i.order.length 0 0 0 [] 0 hm ho (by simp) _ (HI.out.mods.later HW.out (Nat.le_refl _))).mono ?_
  rintro e w1 ⟨b, rfl, hb1⟩
  have HB1 := Lib.hid (box_below hb1).1
  have HX := Lib.hid ((Box.new w (imgCells s i) 28 (by decide)).grow hb1)
  clear hb1
  cases b
  case true =>
    go_wp2_with fail
    go_ret
    exact anyBool HB1.out
  case false =>
    have b0 : w1.cell? ⟨w.heap.size, 0, none⟩ = some (.slice s.A1 i.names.length s.c1) := (HX.out.cell 0).trans rfl
    go_wp2_with fail
    go_loopg [3] (i.names.length) (fun g x wr => ∃ k : Nat, k + g = i.names.length ∧ x = .int .i64 k ∧ wr = w1)
    case atStart => exact ⟨0, by omega, rfl, rfl⟩
    case round =>
      obtain ⟨k, hk, rfl, rfl⟩ := hrel
      by_cases hlt : k < i.names.length
      · obtain ⟨bb, off, hA1, hb1, c0, hs0⟩ := Each.at_ (HI.out.names.later HB1.out (Nat.le_refl _)) hlt
        generalize i.names.getD k [] = x at *
        obtain ⟨A1, cc1, A2, cc2, A3, cc3⟩ := s
        simp only at hA1 b0 ⊢
        subst hA1
        have hkI : (k : Int) < (i.names.length : Int) := by omega
        rw [Nat.mul_one] at c0
        by_cases g1 : 300 < x.length
        · go_wp2_with fail
          go_ret
          exact anyBool HB1.out
        · go_wp2_with fail
          go_roundg (gk - 1)
          case measure => omega
          case rel => exact ⟨k + 1, by omega, by go_num, rfl⟩
      · obtain rfl : k = i.names.length := by omega
        go_wp2_with fail
        go_ret
        exact anyBool HB1.out
end Go.Proofs.Ytckbfocbainlpaa
