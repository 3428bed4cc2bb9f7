/- mach.Check. Condition: what lies in memory can lie there. -/
import Derived.Test.YtckbfocbainlpaaId
import Derived.Test.YtckbfocbainlpaaIm
namespace Go.Proofs.Ytckbfocbainlpaa
open Go.RowKit
set_option maxRecDepth 100000

def errMod (ok : Bool) : Int := if ok then 0 else 200
/-- How a look at a program ends: an error, or none; the number ahead of it is not told. -/
def CheckEnd (w : World) (ok : Bool) (e : Ending) (w' : World) : Prop := ∃ k : Int, e = .returned (.tuple #[.int .i64 k, .int .i64 (errMod ok)]) ∧ Below w.heap.size w w'
theorem checkEnd_of {w w' : World} {ok : Bool} {k x : Int} (h : errMod ok = x) (hb : Below w.heap.size w w') : CheckEnd w ok (.returned (.tuple #[.int .i64 k, .int .i64 x])) w' := ⟨k, by rw [h], hb⟩
theorem errMod_false {ok : Bool} (h : ok = false) : errMod ok = 200 := by rw [h]; rfl
theorem box2' {w w' : World} {a b : Value} {t : TypeId} (hb : Below (w.heap.size + 1) (w.alloc (.cells #[a, b] t)) w') :
    w'.cell? ⟨w.heap.size, 0, none⟩ = some a ∧ w'.cell? ⟨w.heap.size, 1, none⟩ = some b ∧ Below w.heap.size w w' ∧ w.heap.size < w'.heap.size := by
  have hb' : Below (w.alloc (.cells #[a, b] t)).heap.size (w.alloc (.cells #[a, b] t)) w' := by simpa using hb
  exact box2 hb'
theorem checkB_len {ms : List ModL} {o : List Int} (h : withinB ms.length 1 64 = false) : checkB ms o = false := by unfold checkB; rw [h]; rfl
theorem checkB_mod {ms : List ModL} {o : List Int} (h : ms.all (modB · ms.length) = false) : checkB ms o = false := by unfold checkB; rw [h]; simp
theorem checkB_in {ms : List ModL} {o : List Int} (h : o.all (withinB · 0 (ms.length - 1)) = false) : checkB ms o = false := by unfold checkB; rw [h]; simp
theorem checkB_dup {ms : List ModL} {o : List Int} (h : ¬ o.Nodup) : checkB ms o = false := by unfold checkB; rw [decide_eq_false h]; simp
theorem checkB_ok {ms : List ModL} {o : List Int} (h1 : withinB ms.length 1 64 = true) (h2 : ms.all (modB · ms.length) = true) (h3 : o.all (withinB · 0 (ms.length - 1)) = true) (h4 : o.Nodup) : checkB ms o = true := by
  unfold checkB; rw [h1, h2, h3, decide_eq_true h4]; rfl

set_option maxHeartbeats 1000000 in
theorem check_any (A2 A3 : Option Addr) (c2 c3 : Nat) (ms : List ModL) (o : List Int) (hms : ms.length ≤ 140737488355328) (ho : o.length ≤ 140737488355328) (w : World) (hM : Mods w A2 ms) (hO : Ints w A3 o) :
    Calls Try.prog 29 #[.agg #[.slice A2 ms.length c2, .slice A3 o.length c3]] w (CheckEnd w (checkB ms o)) := by
  have HM := Lib.hid hM
  have HO := Lib.hid hO
  have HAL := Lib.hid (alloc_below w (.cells #[.slice A2 ms.length c2, .slice A3 o.length c3] 26))
  clear hM hO
  cases h1 : withinB ms.length 1 64
  · have HX := Lib.hid (checkB_len (o := o) h1)
    go_enter Try.func29, Try.ntmps29
    go_wp2_with (first | (go_at_call 50; refine (within_any _ _ _ _).mono ?_; rintro e w' ⟨rfl, rfl⟩))
    go_ret2
    exact checkEnd_of (errMod_false HX.out) HAL.out
  have hb64 : 1 ≤ ms.length ∧ ms.length ≤ 64 := by
    have := h1
    simp [withinB] at this; omega
  obtain ⟨hl1, hl2⟩ := hb64
  have H1 := Lib.hid h1
  go_enter Try.func29, Try.ntmps29
  go_wp2_with (first | (go_at_call 50; refine (within_any _ _ _ _).mono ?_; rintro e w' ⟨rfl, rfl⟩))
  clear h1
  go_loopg [20] (ms.length) (fun g i wr => ∃ k : Nat, k + g = ms.length ∧ i = .int .i64 k ∧ (ms.take k).all (modB · ms.length) = true ∧ Below (w.heap.size + 1) (w.alloc (.cells #[.slice A2 ms.length c2, .slice A3 o.length c3] 26)) wr)
  case atStart => exact ⟨0, by omega, rfl, rfl, Below.refl _ _⟩
  case round =>
    obtain ⟨k, hk, rfl, hall, hb⟩ := hrel
    have HA := Lib.hid hall
    obtain ⟨b0, b1, hbw, hsz⟩ := box2' hb
    have HB := Lib.hid hb
    clear hall hb
    by_cases hlt : k < ms.length
    · obtain ⟨b, off, hA2, hbl, hP⟩ := Each.at_ (HM.out.later hbw (Nat.le_refl _)) hlt
      have HS := Lib.hid (all_take_succ (modB · ms.length) ms k default hlt)
      have HF := Lib.hid (all_false_at (modB · ms.length) ms k default hlt)
      generalize ms.getD k default = m at *
      obtain ⟨s, hI, c0, c1, c2', c3', c4⟩ := hP
      have HI := Lib.hid (hI.later (alloc_below wr (.cells #[.string ⟨m.code.toArray⟩, .slice s.A1 m.procs.length s.c1, .slice s.A2 m.imports.length s.c2, .int .i64 m.data, .slice s.A3 m.init.length s.c3] 41)) (Nat.le_refl _))
      have hcl := hI.code_le
      clear hI
      subst hA2
      have hkI : (k : Int) < (ms.length : Int) := by omega
      go_wp2_with fail
      refine (module_any s m ms.length (by omega) (by omega) _ HI.out).mono ?_
      rintro e w5 ⟨rfl, hb5⟩
      obtain ⟨hb6, hz6⟩ := box_below hb5
      have hb7 := HB.out.trans (hb6.mono (by omega))
      clear hb5 c0 c1 c2' c3' c4 b0 b1
      cases hq : modB m ms.length
      · go_wp2_with fail
        go_ret2
        exact checkEnd_of (errMod_false (checkB_mod (HF.out hq))) (hbw.trans (hb6.mono (by omega)))
      · go_wp2_with fail
        go_roundg (gk - 1)
        case measure => omega
        case rel => exact ⟨k + 1, by omega, by go_num, by rw [HS.out, HA.out, hq]; rfl, hb7⟩
    · obtain rfl : k = ms.length := by omega
      have HA1 := Lib.hid (show ms.all (modB · ms.length) = true by have := HA.out; rwa [List.take_length] at this)
      clear HA
      rename World => wA
      have hmm := @run_makeMap Try.prog
      go_wp2_with fail
      clear hmm
      have HOw := Lib.hid (HO.out.later hbw (Nat.le_refl _))
      go_loopg [35] (o.length) (fun g i wr => ∃ k : Nat, k + g = o.length ∧ i = .int .i64 k ∧ (o.take k).all (withinB · 0 (ms.length - 1)) = true ∧ (o.take k).Nodup ∧ SeenAt wr wA.heap.size intKey (o.take k) ∧ Below wA.heap.size wA wr)
      case atStart => exact ⟨0, by omega, rfl, rfl, List.nodup_nil, SeenAt.new wA intKey, alloc_below wA _⟩
      case round =>
        obtain ⟨k, hk, rfl, hall, hnd, hseen, hb2⟩ := hrel
        have HA := Lib.hid hall
        have HN := Lib.hid hnd
        have HSe := Lib.hid hseen
        have HB2 := Lib.hid hb2
        have HF2 := Lib.hid (hbw.trans (hb2.mono (by omega)))
        clear hall hnd hseen hb2
        by_cases hlt : k < o.length
        · obtain ⟨b, off, hA3, hbl, c0⟩ := Each.at_ (HOw.out.later HB2.out (Nat.le_refl _)) hlt
          have HS := Lib.hid (all_take_succ (withinB · 0 (ms.length - 1)) o k 0 hlt)
          have HF := Lib.hid (all_false_at (withinB · 0 (ms.length - 1)) o k 0 hlt)
          have HD := Lib.hid (not_nodup_at o k 0 hlt)
          have HNN := Lib.hid (nodup_take_succ o k 0 hlt)
          have HTK := Lib.hid (show o.take (k + 1) = o.take k ++ [o.getD k 0] by rw [List.take_succ_eq_append_getElem hlt]; simp [List.getD_eq_getElem?_getD, hlt])
          generalize o.getD k 0 = x at *
          subst hA3
          have hkI : (k : Int) < (o.length : Int) := by omega
          rw [Nat.mul_one] at c0
          have hlook := look_int wr wA.heap.size (o.take k) HSe.out x
          cases hq : withinB x 0 (ms.length - 1)
          · go_wp2_with (first | (go_at_call 50; refine (within_any _ _ _ _).mono ?_; rintro e w' ⟨rfl, rfl⟩))
            go_ret2
            exact checkEnd_of (errMod_false (checkB_in (HF.out hq))) HF2.out
          · by_cases hx : x ∈ o.take k
            · rw [if_pos hx] at hlook
              have HX := Lib.hid hx
              clear hx
              go_wp2_with (first | (go_at_call 50; refine (within_any _ _ _ _).mono ?_; rintro e w' ⟨rfl, rfl⟩))
              go_ret2
              exact checkEnd_of (errMod_false (checkB_dup (HD.out HX.out))) HF2.out
            · rw [if_neg hx] at hlook
              have hput := put_int wr wA.heap.size (o.take k) HSe.out x hx
              have HP := Lib.hid (seen_put_at HSe.out x)
              have HX := Lib.hid hx
              clear hx
              go_wp2_with (first | (go_at_call 50; refine (within_any _ _ _ _).mono ?_; rintro e w' ⟨rfl, rfl⟩))
              go_roundg (gk - 1)
              case measure => omega
              case rel => exact ⟨k + 1, by omega, by go_num, by rw [HS.out, HA.out, hq]; rfl, HNN.out.2 ⟨HN.out, HX.out⟩, by rw [HTK.out]; exact HP.out, putSeen_below HB2.out (Nat.le_refl _)⟩
        · obtain rfl : k = o.length := by omega
          have HA2 := Lib.hid (show o.all (withinB · 0 (ms.length - 1)) = true by have := HA.out; rwa [List.take_length] at this)
          have HN2 := Lib.hid (show o.Nodup by have := HN.out; rwa [List.take_length] at this)
          clear HA HN
          go_wp2_with fail
          go_ret2
          exact checkEnd_of (by rw [checkB_ok H1.out HA1.out HA2.out HN2.out]; rfl) HF2.out
end Go.Proofs.Ytckbfocbainlpaa
