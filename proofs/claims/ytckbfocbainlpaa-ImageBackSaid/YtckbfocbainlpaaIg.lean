/- image.name, image.Check; the document's May. Condition: what lies in memory can lie there. -/
import Derived.Test.YtckbfocbainlpaaIf
namespace Go.Proofs.Ytckbfocbainlpaa
open Go.RowKit
set_option maxRecDepth 100000

theorem name_any (s : List UInt8) (hs : s.length ≤ 140737488355328) (w : World) : Calls Try.prog 30 #[.string ⟨s.toArray⟩] w fun e w' => e = .returned (.bool (nameB s)) ∧ w = w' := by
  by_cases h : 1 ≤ s.length
  · go_enter Try.func30, Try.ntmps30
    go_wp2_with fail
    go_ret
    exact ⟨ret1 (vbool (by unfold nameB; rw [decide_eq_true h, Bool.true_and, decide_eq_decide]; omega)), rfl⟩
  · have h0 : s = [] := List.eq_nil_of_length_eq_zero (by omega)
    subst h0
    go_enter Try.func30, Try.ntmps30
    go_wp2_with fail
    go_ret
    exact ⟨rfl, rfl⟩

def OrdTo (o : List Int) (k : Nat) : Prop := ∀ j, j < k → o.getD j 0 = (j : Int)
theorem orderB_iff (o : List Int) : orderB o = true ↔ OrdTo o o.length := by
  unfold orderB OrdTo
  rw [decide_eq_true_iff]
  constructor
  · intro h j hj
    rw [h]; simp [List.getD_eq_getElem?_getD]
    rw [List.getElem?_range (by simpa using hj)]; rfl
  · intro h
    apply List.ext_getElem?
    intro j
    by_cases hj : j < o.length
    · have := h j hj
      rw [List.getElem?_map, List.getElem?_range hj, List.getElem?_eq_getElem hj]
      simp [List.getD_eq_getElem?_getD, hj] at this
      simp [this]
    · rw [List.getElem?_eq_none (by omega), List.getElem?_eq_none (by simpa using hj)]
theorem ordTo_succ {o : List Int} {k : Nat} (h : OrdTo o k) (hk : o.getD k 0 = (k : Int)) : OrdTo o (k + 1) := fun j hj => by
  rcases Nat.lt_succ_iff_lt_or_eq.1 hj with h1 | rfl
  · exact h j h1
  · exact hk
theorem not_ord {o : List Int} {k : Nat} (hk : k < o.length) (h : o.getD k 0 ≠ (k : Int)) : orderB o = false := by
  rw [Bool.eq_false_iff]; intro h2; exact h ((orderB_iff o).1 h2 k hk)

theorem imgB_check {i : ImgL} (h : checkB i.mods i.order = false) : imgB i = false := by unfold imgB; rw [h]; rfl
theorem imgB_len1 {i : ImgL} (h : i.names.length ≠ i.mods.length) : imgB i = false := by unfold imgB; rw [beq_eq_false_iff_ne.2 h]; simp
theorem imgB_len2 {i : ImgL} (h : i.order.length ≠ i.mods.length) : imgB i = false := by unfold imgB; rw [beq_eq_false_iff_ne.2 h]; simp
theorem imgB_name {i : ImgL} (h : i.names.all nameB = false) : imgB i = false := by unfold imgB; rw [h]; simp
theorem imgB_dup {i : ImgL} (h : ¬ i.names.Nodup) : imgB i = false := by unfold imgB; rw [decide_eq_false h]; simp
theorem imgB_ord {i : ImgL} (h : orderB i.order = false) : imgB i = false := by unfold imgB; rw [h]; simp
theorem imgB_ok {i : ImgL} (h1 : checkB i.mods i.order = true) (h2 : i.names.length = i.mods.length) (h3 : i.order.length = i.mods.length) (h4 : i.names.all nameB = true) (h5 : i.names.Nodup) (h6 : OrdTo i.order i.names.length) : imgB i = true := by
  unfold imgB; rw [h1, h4, decide_eq_true h5, (orderB_iff _).2 (by rw [h3, ← h2]; exact h6)]; simp [h2, h3]

def errArg (ok : Bool) : Int := if ok then 0 else 2
theorem errArg_false {ok : Bool} (h : ok = false) : errArg ok = 2 := by rw [h]; rfl
def IntEnd (w : World) (n : Int) (e : Ending) (w' : World) : Prop := e = .returned (.int .i64 n) ∧ Below w.heap.size w w'
theorem intEnd_of {w w' : World} {n m : Int} (h : n = m) (hb : Below w.heap.size w w') : IntEnd w n (.returned (.int .i64 m)) w' := ⟨by rw [h], hb⟩
/-- Two boxes, of three cells and of two, and what is behind them. -/
theorem box32 {w w' : World} {a b c d e : Value} {t u : TypeId} (hb : Below (w.heap.size + 2) ((w.alloc (.cells #[a, b, c] t)).alloc (.cells #[d, e] u)) w') :
    w'.cell? ⟨w.heap.size, 0, none⟩ = some a ∧ w'.cell? ⟨w.heap.size, 1, none⟩ = some b ∧ w'.cell? ⟨w.heap.size, 2, none⟩ = some c ∧ w'.cell? ⟨w.heap.size + 1, 0, none⟩ = some d ∧ w'.cell? ⟨w.heap.size + 1, 1, none⟩ = some e ∧ Below w.heap.size w w' ∧ w.heap.size + 1 < w'.heap.size := by
  have h1 : ∀ i, w'.cell? ⟨w.heap.size, i, none⟩ = #[a, b, c][i]? := fun i => by
    rw [hb.cell (p := ⟨w.heap.size, i, none⟩) (by show w.heap.size < w.heap.size + 2; omega)]
    unfold World.cell?
    rw [Below.heap_alloc _ _ _ (by simp), heap_alloc_new]; simp
  have h2 : ∀ i, w'.cell? ⟨w.heap.size + 1, i, none⟩ = #[d, e][i]? := fun i => by
    rw [hb.cell (p := ⟨w.heap.size + 1, i, none⟩) (by show w.heap.size + 1 < w.heap.size + 2; omega)]
    unfold World.cell?
    have : w.heap.size + 1 = (w.alloc (.cells #[a, b, c] t)).heap.size := by simp
    simp only [this]
    rw [heap_alloc_new]; simp
  refine ⟨by rw [h1]; rfl, by rw [h1]; rfl, by rw [h1]; rfl, by rw [h2]; rfl, by rw [h2]; rfl, (((Below.refl _ _).alloc (Nat.le_refl _) _).alloc (by simp) _).trans (hb.mono (by omega)), by have := hb.size; simp at this; omega⟩

set_option maxHeartbeats 1000000 in
theorem imgCheck_any (s : IS) (i : ImgL) (w : World) (hI : ImgIn w s i) : Calls Try.prog 11 #[imgV s i] w (IntEnd w (errArg (imgB i))) := by
  obtain ⟨A1, c1, A2, c2, A3, c3⟩ := s
  have hn := hI.names_le
  have hm := hI.mods_le
  have ho := hI.order_le
  have HI := Lib.hid hI
  have HW := Lib.hid ((((Below.refl w.heap.size w).alloc (Nat.le_refl _) (.cells #[.slice A1 i.names.length c1, .slice A2 i.mods.length c2, .slice A3 i.order.length c3] 28)).alloc (by simp) (.cells #[.slice A2 i.mods.length c2, .slice A3 i.order.length c3] 26)))
  clear hI
  unfold imgV
  go_enter Try.func11, Try.ntmps11
  go_wp2_with fail
  refine (check_any A2 A3 c2 c3 i.mods i.order hm ho _ (HI.out.mods.later HW.out (Nat.le_refl _)) (HI.out.order.later HW.out (Nat.le_refl _))).mono ?_
  rintro e w1 ⟨k, rfl, hb⟩
  simp only [World.size_alloc] at hb
  obtain ⟨a0, a1, a2, p0, p1, hbw, hsz⟩ := box32 hb
  clear hb
  cases hq : checkB i.mods i.order
  · have HX := Lib.hid (imgB_check hq)
    rw [show errMod false = 200 from rfl]
    go_wp2_with fail
    go_ret
    exact intEnd_of (errArg_false HX.out) hbw
  have HC := Lib.hid hq
  rw [show errMod true = 0 from rfl]
  clear hq
  by_cases h1 : i.names.length = i.mods.length
  case neg =>
    have HX := Lib.hid (imgB_len1 h1)
    have d1 : ((i.names.length : Int) == (i.mods.length : Int)) = false := by simp; omega
    have d2 : (i.names.length == i.mods.length) = false := by simpa using h1
    have d3 : ((i.names.length : Int) != (i.mods.length : Int)) = true := by simp; omega
    clear h1
    go_wp2_with fail
    go_ret
    exact intEnd_of (errArg_false HX.out) hbw
  by_cases h2 : i.order.length = i.mods.length
  case neg =>
    have HX := Lib.hid (imgB_len2 h2)
    have d1 : ((i.names.length : Int) == (i.mods.length : Int)) = true := by simp; omega
    have d2 : (i.names.length == i.mods.length) = true := by simpa using h1
    have d3 : ((i.names.length : Int) != (i.mods.length : Int)) = false := by simp; omega
    have e1 : ((i.order.length : Int) == (i.mods.length : Int)) = false := by simp; omega
    have e2 : (i.order.length == i.mods.length) = false := by simpa using h2
    have e3 : ((i.order.length : Int) != (i.mods.length : Int)) = true := by simp; omega
    clear h1 h2
    go_wp2_with fail
    go_ret
    exact intEnd_of (errArg_false HX.out) hbw
  have d1 : ((i.names.length : Int) == (i.mods.length : Int)) = true := by simp; omega
  have d2 : (i.names.length == i.mods.length) = true := by simpa using h1
  have d3 : ((i.names.length : Int) != (i.mods.length : Int)) = false := by simp; omega
  have e1 : ((i.order.length : Int) == (i.mods.length : Int)) = true := by simp; omega
  have e2 : (i.order.length == i.mods.length) = true := by simpa using h2
  have e3 : ((i.order.length : Int) != (i.mods.length : Int)) = false := by simp; omega
  have hle : i.names.length ≤ i.order.length := by omega
  have H1 := Lib.hid h1
  have H2 := Lib.hid h2
  clear h1 h2
  have hmm := @run_makeMap Try.prog
  have hsz0 : w.heap.size < w1.heap.size := by omega
  go_wp2_with fail
  clear hmm d1 d2 d3 e1 e2 e3
  have HNs := Lib.hid (HI.out.names.later hbw (Nat.le_refl _))
  have HOs := Lib.hid (HI.out.order.later hbw (Nat.le_refl _))
  go_loopg [40] (i.names.length) (fun g v wr => ∃ k : Nat, k + g = i.names.length ∧ v = .int .i64 k ∧ (i.names.take k).all nameB = true ∧ (i.names.take k).Nodup ∧ OrdTo i.order k ∧ SeenAt wr w1.heap.size strKey (i.names.take k) ∧ Below w1.heap.size w1 wr)
  case atStart => exact ⟨0, by omega, rfl, rfl, List.nodup_nil, fun j hj => by omega, SeenAt.new w1 strKey, alloc_below w1 _⟩
  case round =>
    obtain ⟨k, hk, rfl, hall, hnd, hord, hseen, hb2⟩ := hrel
    have HA := Lib.hid hall
    have HN := Lib.hid hnd
    have HR := Lib.hid hord
    have HSe := Lib.hid hseen
    have HB2 := Lib.hid hb2
    have HF2 := Lib.hid (hbw.trans (hb2.mono (by omega)))
    clear hall hnd hseen hord
    by_cases hlt : k < i.names.length
    · obtain ⟨b, off, hA1, hbl, c0, hsl⟩ := Each.at_ (HNs.out.later hb2 (Nat.le_refl _)) hlt
      obtain ⟨b', off', hA3, hbl', c9⟩ := Each.at_ (HOs.out.later hb2 (Nat.le_refl _)) (j := k) (by omega)
      have f3 := (hb2.cell (p := ⟨w.heap.size + 1, 1, none⟩) (by show w.heap.size + 1 < w1.heap.size; omega)).trans p1
      clear a0 a1 a2 p0 p1 hb2
      have HS := Lib.hid (all_take_succ nameB i.names k [] hlt)
      have HF := Lib.hid (all_false_at nameB i.names k [] hlt)
      have HD := Lib.hid (not_nodup_at i.names k [] hlt)
      have HNN := Lib.hid (nodup_take_succ i.names k [] hlt)
      have HOr := Lib.hid (ordTo_succ (o := i.order) (k := k) HR.out)
      have HNo := Lib.hid (not_ord (o := i.order) (k := k) (by omega))
      have HTK := Lib.hid (show i.names.take (k + 1) = i.names.take k ++ [i.names.getD k []] by rw [List.take_succ_eq_append_getElem hlt]; simp [List.getD_eq_getElem?_getD, hlt])
      generalize i.names.getD k [] = x at *
      generalize i.order.getD k 0 = y at *
      subst hA1 hA3
      have hkI : (k : Int) < (i.names.length : Int) := by omega
      have hkI2 : (k : Int) < (i.order.length : Int) := by omega
      rw [Nat.mul_one] at c0 c9
      have hlook := look_str wr w1.heap.size (i.names.take k) HSe.out x
      cases hq : nameB x
      · go_wp2_with (first | (go_at_call 30; refine (name_any _ hsl _).mono ?_; rintro e w' ⟨rfl, rfl⟩))
        go_ret
        exact intEnd_of (errArg_false (imgB_name (HF.out hq))) HF2.out
      by_cases hx : x ∈ i.names.take k
      · rw [if_pos hx] at hlook
        have HX := Lib.hid hx
        clear hx
        go_wp2_with (first | (go_at_call 30; refine (name_any _ hsl _).mono ?_; rintro e w' ⟨rfl, rfl⟩))
        go_ret
        exact intEnd_of (errArg_false (imgB_dup (HD.out HX.out))) HF2.out
      rw [if_neg hx] at hlook
      have HX := Lib.hid hx
      by_cases hy : y = (k : Int)
      · have d1 : (y == (k : Int)) = true := by simpa using hy
        have d2 : (y != (k : Int)) = false := by simpa using hy
        have hput := put_str wr w1.heap.size (i.names.take k) HSe.out x hx
        have HP := Lib.hid (seen_put_at HSe.out x)
        have HY := Lib.hid hy
        clear hx hy
        go_wp2_with (first | (go_at_call 30; refine (name_any _ hsl _).mono ?_; rintro e w' ⟨rfl, rfl⟩))
        go_roundg (gk - 1)
        case measure => omega
        case rel => exact ⟨k + 1, by omega, by go_num, by rw [HS.out, HA.out, hq]; rfl, HNN.out.2 ⟨HN.out, HX.out⟩, HOr.out HY.out, by rw [HTK.out]; exact HP.out, putSeen_below HB2.out (Nat.le_refl _)⟩
      · have d1 : (y == (k : Int)) = false := by simpa using hy
        have d2 : (y != (k : Int)) = true := by simpa using hy
        have HY := Lib.hid hy
        clear hx hy
        go_wp2_with (first | (go_at_call 30; refine (name_any _ hsl _).mono ?_; rintro e w' ⟨rfl, rfl⟩))
        go_ret
        exact intEnd_of (errArg_false (imgB_ord (HNo.out HY.out))) HF2.out
    · obtain rfl : k = i.names.length := by omega
      have HA2 := Lib.hid (show i.names.all nameB = true by have := HA.out; rwa [List.take_length] at this)
      have HN2 := Lib.hid (show i.names.Nodup by have := HN.out; rwa [List.take_length] at this)
      clear HA HN hb2
      go_wp2_with fail
      go_ret
      exact intEnd_of (by rw [imgB_ok HC.out H1.out H2.out HA2.out HN2.out HR.out]; rfl) HF2.out
end Go.Proofs.Ytckbfocbainlpaa
