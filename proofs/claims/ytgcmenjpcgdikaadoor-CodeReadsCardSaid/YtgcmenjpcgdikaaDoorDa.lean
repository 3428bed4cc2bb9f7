/- The law's Long and the document's Same and SameAll, walked. Conditions: lengths within what memory can hold. -/
import Derived.Test.YtgcmenjpcgdikaaDoorCj
namespace Go.Proofs.YtgcmenjpcgdikaaDoor
open Go.RowKit
set_option maxRecDepth 100000

set_option maxHeartbeats 600000 in
theorem long_any (L : Option Addr) (l : List InsL) (cap : Nat) (hl : l.length ≤ 9223372036854775807) (w : World) (hL : Inss w L l) :
    Calls Tryd.prog 16 #[.slice L l.length cap] w fun e w' => (∃ b, e = .returned (.bool b) ∧ (b = false → l.length ≤ 200)) ∧ w = w' := by
  by_cases h2 : 200 < l.length
  · go_enter Tryd.func16, Tryd.ntmps16
    go_wp2_with fail
    go_ret
    exact ⟨⟨true, rfl, fun h => by cases h⟩, rfl⟩
  · go_enter Tryd.func16, Tryd.ntmps16
    go_wp2_with fail
    go_loopg [3, 4] (l.length) (fun g s i wr => ∃ k n : Nat, k + g = l.length ∧ i = .int .i64 k ∧ s = .int .i64 n ∧ n ≤ 4096 ∧ wr = w)
    case atStart => exact ⟨0, 0, by omega, rfl, rfl, by omega, rfl⟩
    case round =>
      obtain ⟨k, n, hk, rfl, rfl, hn, rfl⟩ := hrel
      by_cases hlt : k < l.length
      · obtain ⟨b, off, rfl, hbw, hI⟩ := hL.at_ hlt
        obtain ⟨A, cap2, c0, c1, hA, _, hlen⟩ := hI
        have hkI : (k : Int) < (l.length : Int) := by omega
        clear hA hL
        generalize (l.getD k (0, [])).2.length = m at *
        by_cases h3 : 4096 < n + m
        · have g3 : decide ((4096 : Int) < (n : Int) + (m : Int)) = true := by simp; omega
          go_wp2_with fail
          go_ret
          exact ⟨⟨true, rfl, fun h => by cases h⟩, rfl⟩
        · have g3 : decide ((4096 : Int) < (n : Int) + (m : Int)) = false := by simp; omega
          go_wp2_with fail
          go_roundg (gk - 1)
          case measure => omega
          case rel => exact ⟨k + 1, n + m, by omega, by go_num, by go_num, by omega, rfl⟩
      · obtain rfl : k = l.length := by omega
        go_wp2_with fail
        go_ret
        exact ⟨⟨false, rfl, fun _ => by omega⟩, rfl⟩

/-- Two lists agree at each of their first places. -/
theorem eq_of_getD {α : Type} [DecidableEq α] (d : α) (a b : List α) (hl : a.length = b.length) (h : ∀ j, j < a.length → a.getD j d = b.getD j d) : a = b := by
  apply List.ext_getElem hl
  intro j h1 h2
  have := h j h1
  rw [List.getD_eq_getElem?_getD, List.getD_eq_getElem?_getD, List.getElem?_eq_getElem h1, List.getElem?_eq_getElem h2] at this
  simpa using this

theorem boxes2 {w : World} {x y x' y' : Value} {t : TypeId} : (∀ o, ((w.alloc (.cells #[x, y] t)).alloc (.cells #[x', y'] t)).cell? ⟨w.heap.size, o, none⟩ = #[x, y][o]?) := by
  intro o
  rw [World.cell?_alloc_lt _ _ _ (by simp)]
  unfold World.cell?
  rw [heap_alloc_new]
  rfl

set_option maxHeartbeats 600000 in
theorem same_any (n m : Nat) (A B : Option Addr) (a b : List Int) (ca cb : Nat) (_ha : a.length ≤ 17592186044416) (hb : b.length ≤ 17592186044416) (w : World) (hA : Ints w A a) (hB : Ints w B b) :
    Calls Tryd.prog 13 #[.agg #[.int .u8 n, .slice A a.length ca], .agg #[.int .u8 m, .slice B b.length cb]] w fun e w' =>
      e = .returned (.bool (decide ((n, a) = (m, b)))) ∧ Below w.heap.size w w' := by
  have hbel : Below w.heap.size w ((w.alloc (.cells #[.int .u8 n, .slice A a.length ca] 25)).alloc (.cells #[.int .u8 m, .slice B b.length cb] 25)) :=
    ((Below.refl _ _).alloc (Nat.le_refl _) _).alloc (by simp) _
  have HB := Lib.hid hbel
  by_cases h1 : n = m
  · by_cases h2 : a.length = b.length
    · have g1 : ((n : Int) != (m : Int)) = false := by simp [h1]
      have g2 : ((a.length : Int) != (b.length : Int)) = false := by simp [h2]
      have H1 := Lib.hid h1
      have H2 := Lib.hid h2
      have hA' := hA.later hbel (Nat.le_refl _)
      have hB' := hB.later hbel (Nat.le_refl _)
      have p0 : ((w.alloc (.cells #[.int .u8 n, .slice A a.length ca] 25)).alloc (.cells #[.int .u8 m, .slice B b.length cb] 25)).cell? ⟨w.heap.size, 1, none⟩ = some (.slice A a.length ca) := boxes2 1
      have p1 : ((w.alloc (.cells #[.int .u8 n, .slice A a.length ca] 25)).alloc (.cells #[.int .u8 m, .slice B b.length cb] 25)).cell? ⟨w.heap.size + 1, 1, none⟩ = some (.slice B b.length cb) := by
        unfold World.cell?
        have := heap_alloc_new (w.alloc (.cells #[.int .u8 n, .slice A a.length ca] 25)) (.cells #[.int .u8 m, .slice B b.length cb] 25)
        have e : (w.alloc (.cells #[.int .u8 n, .slice A a.length ca] 25)).heap.size = w.heap.size + 1 := by simp
        rw [e] at this
        rw [this]; rfl
      have P0 := Lib.hid p0
      have P1 := Lib.hid p1
      have HA := Lib.hid hA'
      have HB2 := Lib.hid hB'
      clear p0 p1 h2 hA hB hA' hB' hbel h1
      go_enter Tryd.func13, Tryd.ntmps13
      go_wp2_with fail
      go_loopg [5] (a.length) (fun g i wr => ∃ k : Nat, k + g = a.length ∧ i = .int .i64 k ∧ (∀ j, j < k → a.getD j 0 = b.getD j 0) ∧
        wr.cell? ⟨w.heap.size, 1, none⟩ = some (.slice A a.length ca) ∧ wr.cell? ⟨w.heap.size + 1, 1, none⟩ = some (.slice B b.length cb) ∧ Ints wr A a ∧ Ints wr B b ∧ Below w.heap.size w wr ∧ w.heap.size + 2 ≤ wr.heap.size)
      case atStart => exact ⟨0, by omega, rfl, fun j hj => by omega, P0.out, P1.out, HA.out, HB2.out, HB.out, by simp⟩
      case round =>
        obtain ⟨k, hk, rfl, heq, c0, c1, hA, hB, hbw, hz⟩ := hrel
        clear P0 P1 HA HB2
        have HEQ := Lib.hid heq
        clear heq
        have z1 : w.heap.size < wr.heap.size := by omega
        have z2 : w.heap.size + 1 < wr.heap.size := by omega
        by_cases hlt : k < a.length
        · have hlt2 : k < b.length := by have := H2.out; omega
          obtain ⟨b1, o1, rfl, l1, q1⟩ := hA.at_ hlt
          obtain ⟨b2, o2, rfl, l2, q2⟩ := hB.at_ hlt2
          have HAA := Lib.hid hA
          have HBB := Lib.hid hB
          clear hA hB
          have hkI : (k : Int) < (a.length : Int) := by omega
          have hkJ : (k : Int) < (b.length : Int) := by omega
          generalize hx : a.getD k 0 = x at *
          generalize hy : b.getD k 0 = y at *
          have HX := Lib.hid hx
          have HY := Lib.hid hy
          clear hx hy
          by_cases he : x = y
          · have g3 : (x != y) = false := by simp [he]
            have HE := Lib.hid he
            clear he
            go_wp2_with fail
            go_quiet (fail)
            go_wp2_with fail
            go_roundg (gk - 1)
            case measure => omega
            case rel =>
              have hd := below_drawn (Below.refl wr.heap.size wr) nq
              refine ⟨k + 1, by omega, by go_num, ?_, (hd.cell (p := ⟨w.heap.size, 1, none⟩) z1).trans c0, (hd.cell (p := ⟨w.heap.size + 1, 1, none⟩) z2).trans c1, HAA.out.later hd (Nat.le_refl _), HBB.out.later hd (Nat.le_refl _), hbw.trans (hd.mono (by omega)), ?_⟩
              · intro j hj
                rcases Nat.lt_or_ge j k with h | h
                · exact HEQ.out j h
                · obtain rfl : j = k := by omega
                  rw [HX.out, HY.out, HE.out]
              · have := hd.size; omega
          · have g3 : (x != y) = true := by simp [he]
            have HE := Lib.hid he
            clear he
            go_wp2_with fail
            go_quiet (fail)
            go_wp2_with fail
            go_ret
            refine ⟨?_, below_drawn hbw nq⟩
            refine ret1 (vbool ?_)
            refine (decide_eq_false fun h => ?_).symm
            injection h with _ h
            exact HE.out (by rw [← HX.out, ← HY.out, h])
        · obtain rfl : k = a.length := by omega
          go_wp2_with fail
          go_ret
          refine ⟨ret1 (vbool ?_), hbw⟩
          refine (decide_eq_true ?_).symm
          rw [H1.out, eq_of_getD 0 a b H2.out HEQ.out]
    · have g1 : ((n : Int) != (m : Int)) = false := by simp [h1]
      have g2 : ((a.length : Int) != (b.length : Int)) = true := by simp; omega
      have H2 := Lib.hid h2
      clear h2 hbel h1
      go_enter Tryd.func13, Tryd.ntmps13
      go_wp2_with fail
      go_ret
      refine ⟨ret1 (vbool ?_), HB.out⟩
      refine (decide_eq_false fun h => ?_).symm
      injection h with _ h
      exact H2.out (by rw [h])
  · have g1 : ((n : Int) != (m : Int)) = true := by simp; omega
    have H1 := Lib.hid h1
    clear h1 hbel
    go_enter Tryd.func13, Tryd.ntmps13
    go_wp2_with fail
    go_ret
    refine ⟨ret1 (vbool ?_), HB.out⟩
    refine (decide_eq_false fun h => ?_).symm
    injection h with h _
    exact H1.out h

/-- .. of two rows. -/
theorem same_as (d : Bool) (n m : Nat) (A B : Option Addr) (a b : List Int) (ca cb : Nat) (hd : d = decide ((n, a) = (m, b))) (ha : a.length ≤ 17592186044416) (hb : b.length ≤ 17592186044416) (w : World) (hA : Ints w A a) (hB : Ints w B b) :
    Calls Tryd.prog 13 #[.agg #[.int .u8 n, .slice A a.length ca], .agg #[.int .u8 m, .slice B b.length cb]] w fun e w' => e = .returned (.bool d) ∧ Below w.heap.size w w' := by
  subst hd; exact same_any n m A B a b ca cb ha hb w hA hB
set_option maxHeartbeats 600000 in
theorem sameAll_any (L M : Option Addr) (l m : List InsL) (cl cm : Nat) (_hl : l.length ≤ 9223372036854775807) (hm : m.length ≤ 9223372036854775807) (w : World) (hL : Inss w L l) (hM : Inss w M m) :
    Calls Tryd.prog 14 #[.slice L l.length cl, .slice M m.length cm] w fun e w' => e = .returned (.bool (decide (l = m))) ∧ Below w.heap.size w w' := by
  by_cases h2 : l.length = m.length
  · have g2 : ((l.length : Int) != (m.length : Int)) = false := by simp [h2]
    have H2 := Lib.hid h2
    clear h2
    go_enter Tryd.func14, Tryd.ntmps14
    go_wp2_with fail
    go_loopg [5] (l.length) (fun g i wr => ∃ k : Nat, k + g = l.length ∧ i = .int .i64 k ∧ (∀ j, j < k → l.getD j (0, []) = m.getD j (0, [])) ∧ Below w.heap.size w wr)
    case atStart => exact ⟨0, by omega, rfl, fun j hj => by omega, Below.refl _ _⟩
    case round =>
      obtain ⟨k, hk, rfl, heq, hbw⟩ := hrel
      have HEQ := Lib.hid heq
      clear heq
      by_cases hlt : k < l.length
      · have hlt2 : k < m.length := by have := H2.out; omega
        obtain ⟨b1, o1, rfl, l1, q1⟩ := hL.at_ hlt
        obtain ⟨b2, o2, rfl, l2, q2⟩ := hM.at_ hlt2
        have l1' : b1 < wr.heap.size := by have := hbw.size; omega
        have l2' : b2 < wr.heap.size := by have := hbw.size; omega
        obtain ⟨A, ca, c0, c1, hA, _, hal⟩ := q1.later hbw (Nat.le_refl _) l1
        obtain ⟨B, cb, d0, d1, hB, _, hbl⟩ := q2.later hbw (Nat.le_refl _) l2
        clear q1 q2 hL hM
        have hkI : (k : Int) < (l.length : Int) := by omega
        have hkJ : (k : Int) < (m.length : Int) := by omega
        generalize hx : l.getD k (0, []) = x at *
        generalize hy : m.getD k (0, []) = y at *
        have HX := Lib.hid hx
        have HY := Lib.hid hy
        clear hx hy
        obtain ⟨n1, a1⟩ := x
        obtain ⟨n2, a2⟩ := y
        simp only at c0 c1 hA hal d0 d1 hB hbl
        have HA := Lib.hid hA
        have HBB := Lib.hid hB
        clear hA hB
        by_cases he : (n1, a1) = (n2, a2)
        · have HE := Lib.hid he
          have HD := Lib.hid (show true = decide ((n1, a1) = (n2, a2)) from (decide_eq_true he).symm)
          clear he
          go_wp2_with fail
          refine wp_region_grow (by kernel_rfl) (by kernel_rfl) ?_
          repeat (first | go_big_quiet_step ((refine quiet_grow (same_as _ n1 n2 A B a1 a2 ca cb HD.out hal hbl _ (HA.out.later (growN_below wr _) (Nat.le_refl _)) (HBB.out.later (growN_below wr _) (Nat.le_refl _))))))
          refine wpQuiet_nil ?_
          rintro _ ⟨gx, rfl⟩
          have hq := growN_below wr gx
          generalize growN wr gx = wq at *
          go_wp2_with fail
          go_roundg (gk - 1)
          case measure => omega
          case rel =>
            refine ⟨k + 1, by omega, by go_num, ?_, hbw.trans (hq.mono hbw.size)⟩
            intro j hj
            rcases Nat.lt_or_ge j k with h | h
            · exact HEQ.out j h
            · obtain rfl : j = k := by omega
              rw [HX.out, HY.out, HE.out]
        · have HE := Lib.hid he
          have HD := Lib.hid (show false = decide ((n1, a1) = (n2, a2)) from (decide_eq_false he).symm)
          clear he
          go_wp2_with fail
          refine wp_region_grow (by kernel_rfl) (by kernel_rfl) ?_
          repeat (first | go_big_quiet_step ((refine quiet_grow (same_as _ n1 n2 A B a1 a2 ca cb HD.out hal hbl _ (HA.out.later (growN_below wr _) (Nat.le_refl _)) (HBB.out.later (growN_below wr _) (Nat.le_refl _))))))
          refine wpQuiet_nil ?_
          rintro _ ⟨gx, rfl⟩
          have hq := growN_below wr gx
          generalize growN wr gx = wq at *
          go_wp2_with fail
          go_ret
          refine ⟨ret1 (vbool ?_), hbw.trans (hq.mono hbw.size)⟩
          refine (decide_eq_false fun h => ?_).symm
          exact HE.out (by rw [← HX.out, ← HY.out, h])
      · obtain rfl : k = l.length := by omega
        go_wp2_with fail
        go_ret
        refine ⟨ret1 (vbool ?_), hbw⟩
        exact (decide_eq_true (eq_of_getD (0, []) l m H2.out HEQ.out)).symm
  · have g2 : ((l.length : Int) != (m.length : Int)) = true := by simp; omega
    have H2 := Lib.hid h2
    clear h2
    go_enter Tryd.func14, Tryd.ntmps14
    go_wp2_with fail
    go_ret
    exact ⟨ret1 (vbool (decide_eq_false fun h => H2.out (by rw [h])).symm), Below.refl _ _⟩
end Go.Proofs.YtgcmenjpcgdikaaDoor
