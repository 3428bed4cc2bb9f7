/- mach. mach. A region that draws its order, whose last operations. How a new machine begins, of any program. Condition: what lies in memory can lie there; what each theorem says. -/
import Derived.Test.YtabenhpjgjjgnaaGreatDoorBaq
import Derived.Test.YtabenhpjgjjgnaaGreatDoorBaa
import Derived.Test.YtabenhpjgjjgnaaGreatDoorBai
import Derived.Test.YtabenhpjgjjgnaaGreatDoorBah
import Derived.OrdersHeld
import Derived.RegionTactic
import Derived.Deep.RegionHeld
import Derived.Deep.RegionHeld3
import Derived.Outline
/- mach. -/
namespace Go.Proofs.YtabenhpjgjjgnaaGreatDoor
open Go.RowKit
set_option maxRecDepth 100000
theorem boolEnd_false {w w' : World} {b : Bool} (hb : b = false) (h : Below w.heap.size w w') : BoolEnd w b (.returned (.bool false)) w' := ⟨by rw [hb], h⟩
theorem boolEnd_of {w w' : World} {b c : Bool} (hb : c = b) (h : Below w.heap.size w w') : BoolEnd w b (.returned (.bool c)) w' := ⟨by rw [hb], h⟩
theorem headB_eq (m : ModL) : headB m = (!decide (65535 < m.code.length) && withinB m.procs.length 1 1024 && !decide (255 < m.imports.length) && withinB m.data m.init.length 65535) := rfl
theorem box5 {w w' : World} {a b c d e : Value} {t : TypeId} (hb : Below (w.heap.size + 1) (w.alloc (.cells #[a, b, c, d, e] t)) w') :
 w'.cell? ⟨w.heap.size, 0, none⟩ = some a ∧ w'.cell? ⟨w.heap.size, 1, none⟩ = some b ∧ w'.cell? ⟨w.heap.size, 2, none⟩ = some c ∧ w'.cell? ⟨w.heap.size, 3, none⟩ = some d ∧ w'.cell? ⟨w.heap.size, 4, none⟩ = some e ∧ Below w.heap.size w w' ∧ w.heap.size < w'.heap.size := by
 have hb' : Below (w.alloc (.cells #[a, b, c, d, e] t)).heap.size (w.alloc (.cells #[a, b, c, d, e] t)) w' := by simpa using hb
 exact ⟨by rw [box_cell hb']; rfl, by rw [box_cell hb']; rfl, by rw [box_cell hb']; rfl, by rw [box_cell hb']; rfl, by rw [box_cell hb']; rfl, (box_below hb').1, (box_below hb').2⟩
set_option maxHeartbeats 1000000 in
theorem module_head (s : MS) (m : ModL) (n : Int) (w : World) (hc : m.code.length ≤ 140737488355328) (_hp : m.procs.length ≤ 140737488355328) (hi : m.imports.length ≤ 140737488355328) (_ht : m.init.length ≤ 140737488355328) (h : headB m = false) :
 Calls Tryz.prog 54 #[modV s m, .int .i64 n] w (BoolEnd w (modB m n)) := by
 have HM := Lib.hid (show modB m n = false by unfold modB; rw [h]; simp)
 have HH := Lib.hid h
 clear h
 have HB := Lib.hid (alloc_below w (.cells #[.string ⟨m.code.toArray⟩, .slice s.A1 m.procs.length s.c1, .slice s.A2 m.imports.length s.c2, .int .i64 m.data, .slice s.A3 m.init.length s.c3] 68))
 unfold modV
 by_cases h1 : 65535 < m.code.length
 ·go_enter Tryz.func54, Tryz.ntmps54
  go_wp2_with (first | (go_at_call 53; refine (within_any _ _ _ _).mono ?_; rintro e w' ⟨rfl, rfl⟩))
  go_ret
  exact boolEnd_false HM.out HB.out
 cases h2 : withinB m.procs.length 1 1024
 ·go_enter Tryz.func54, Tryz.ntmps54
  go_wp2_with (first | (go_at_call 53; refine (within_any _ _ _ _).mono ?_; rintro e w' ⟨rfl, rfl⟩))
  go_ret
  exact boolEnd_false HM.out HB.out
 by_cases h3 : 255 < m.imports.length
 ·go_enter Tryz.func54, Tryz.ntmps54
  go_wp2_with (first | (go_at_call 53; refine (within_any _ _ _ _).mono ?_; rintro e w' ⟨rfl, rfl⟩))
  go_ret
  exact boolEnd_false HM.out HB.out
 have h4 : withinB m.data m.init.length 65535 = false := by
  have := HH.out
  rw [headB_eq, h2, decide_eq_false h1, decide_eq_false h3] at this
  simpa using this
 go_enter Tryz.func54, Tryz.ntmps54
 go_wp2_with (first | (go_at_call 53; refine (within_any _ _ _ _).mono ?_; rintro e w' ⟨rfl, rfl⟩))
 go_ret
 exact boolEnd_false HM.out HB.out
theorem modB_true {m : ModL} {n : Int} (h1 : headB m = true) (h2 : m.procs.all (mayB · m.code.length) = true) (h3 : m.imports.all (withinB · 0 (n - 1)) = true) : modB m n = bodyB (m.procs.getD 0 default) := by
 unfold modB; rw [h1, h2, h3]; rfl
theorem modB_may {m : ModL} {n : Int} (h : m.procs.all (mayB · m.code.length) = false) : modB m n = false := by
 unfold modB; rw [h]; simp
theorem modB_imp {m : ModL} {n : Int} (h : m.imports.all (withinB · 0 (n - 1)) = false) : modB m n = false := by
 unfold modB; rw [h]; simp
set_option maxHeartbeats 1000000 in
theorem module_main (s : MS) (m : ModL) (n : Int) (hn : 0 ≤ n) (hn2 : n ≤ 140737488355328) (w : World) (hI : ModIn w s m) (h : headB m = true) :
 Calls Tryz.prog 54 #[modV s m, .int .i64 n] w (BoolEnd w (modB m n)) := by
 have HH := Lib.hid h
 have h' := h
 rw [headB_eq] at h'
 simp only [Bool.and_eq_true, Bool.not_eq_true', decide_eq_false_iff_not] at h'
 obtain ⟨⟨⟨h1, h2⟩, h3⟩, h4⟩ := h'
 have hpl : 1 ≤ m.procs.length ∧ m.procs.length ≤ 1024 := by
  have := h2
  simp [withinB] at this; omega
 obtain ⟨hp1, hp2⟩ := hpl
 have hil := hI.init_le
 have HI := Lib.hid hI
 clear h hI
 unfold modV
 go_enter Tryz.func54, Tryz.ntmps54
 go_wp2_with (first | (go_at_call 53; refine (within_any _ _ _ _).mono ?_; rintro e w' ⟨rfl, rfl⟩))
 clear h2 h4
 go_loopg [39] (m.procs.length) (fun g i wr => ∃ k : Nat, k + g = m.procs.length ∧ i = .int .i64 k ∧ (m.procs.take k).all (mayB · m.code.length) = true ∧ Below (w.heap.size + 1) (w.alloc (.cells #[.string ⟨m.code.toArray⟩, .slice s.A1 m.procs.length s.c1, .slice s.A2 m.imports.length s.c2, .int .i64 m.data, .slice s.A3 m.init.length s.c3] 68)) wr)
 case atStart => exact ⟨0, by omega, rfl, rfl, Below.refl _ _⟩
 case round =>
  obtain ⟨k, hk, rfl, hall, hb⟩ := hrel
  have HA := Lib.hid hall
  obtain ⟨b0, b1, b2, b3, b4, hbw, hsz⟩ := box5 hb
  have HB := Lib.hid hb
  clear hall hb
  by_cases hlt : k < m.procs.length
  ·obtain ⟨b, off, hA1, hbl, hP⟩ := Each.at_ (HI.out.procs.later hbw (Nat.le_refl _)) hlt
   have HS := Lib.hid (all_take_succ (mayB · m.code.length) m.procs k default hlt)
   have HF := Lib.hid (all_false_at (mayB · m.code.length) m.procs k default hlt)
   generalize m.procs.getD k default = p at *
   obtain ⟨c0, c1, c2, c3, c4, c5⟩ := hP
   obtain ⟨A1, cc1, A2, cc2, A3, cc3⟩ := s
   simp only at hA1 ⊢
   subst hA1
   have hkI : (k : Int) < (m.procs.length : Int) := by omega
   go_wp2_with fail
   refine (may_any p ⟨_, cc1, A2, cc2, A3, cc3⟩ m (by omega) _).mono ?_
   rintro e w5 ⟨rfl, hb5⟩
   obtain ⟨hb6, hz6⟩ := box_below hb5
   have hb7 := HB.out.trans (hb6.mono (by omega))
   clear hb5 c0 c1 c2 c3 c4 c5 b0 b1 b2 b3 b4
   cases hq : mayB p m.code.length
   ·go_wp2_with fail
    go_ret
    exact boolEnd_false (modB_may (HF.out hq)) (hbw.trans (hb6.mono (by omega)))
   ·go_wp2_with fail
    go_roundg (gk - 1)
    case measure => omega
    case rel => exact ⟨k + 1, by omega, by go_num, by rw [HS.out, HA.out, hq]; rfl, hb7⟩
  ·obtain rfl : k = m.procs.length := by omega
   have HA1 := Lib.hid (show m.procs.all (mayB · m.code.length) = true by have := HA.out; rwa [List.take_length] at this)
   clear HA
   go_wp2_with fail
   go_loopg [51] (m.imports.length) (fun g i wr2 => ∃ k : Nat, k + g = m.imports.length ∧ i = .int .i64 k ∧ (m.imports.take k).all (withinB · 0 (n - 1)) = true ∧ wr2 = wr)
   case atStart => exact ⟨0, by omega, rfl, rfl, rfl⟩
   case round =>
    obtain ⟨k, hk, rfl, hall, rfl⟩ := hrel
    have HA := Lib.hid hall
    clear hall
    by_cases hlt : k < m.imports.length
    ·obtain ⟨b, off, hA2, hbl, c0⟩ := Each.at_ (HI.out.imports.later hbw (Nat.le_refl _)) hlt
     have HS := Lib.hid (all_take_succ (withinB · 0 (n - 1)) m.imports k 0 hlt)
     have HF := Lib.hid (all_false_at (withinB · 0 (n - 1)) m.imports k 0 hlt)
     generalize m.imports.getD k 0 = x at *
     obtain ⟨A1, cc1, A2, cc2, A3, cc3⟩ := s
     simp only at hA2 ⊢
     subst hA2
     have hkI : (k : Int) < (m.imports.length : Int) := by omega
     rw [Nat.mul_one] at c0
     cases hq : withinB x 0 (n - 1)
     ·go_wp2_with (first | (go_at_call 53; refine (within_any _ _ _ _).mono ?_; rintro e w' ⟨rfl, rfl⟩))
      go_ret
      exact boolEnd_false (modB_imp (HF.out hq)) hbw
     ·go_wp2_with (first | (go_at_call 53; refine (within_any _ _ _ _).mono ?_; rintro e w' ⟨rfl, rfl⟩))
      go_roundg (gk - 1)
      case measure => omega
      case rel => exact ⟨k + 1, by omega, by go_num, by rw [HS.out, HA.out, hq]; rfl, rfl⟩
    ·obtain rfl : k = m.imports.length := by omega
     have HA2 := Lib.hid (show m.imports.all (withinB · 0 (n - 1)) = true by have := HA.out; rwa [List.take_length] at this)
     clear HA
     obtain ⟨b, off, hA1, hbl, hP⟩ := Each.at_ (HI.out.procs.later hbw (Nat.le_refl _)) (j := 0) (by omega)
     have HT := Lib.hid (modB_true HH.out HA1.out HA2.out)
     generalize m.procs.getD 0 default = p at *
     simp only [Nat.zero_mul, Nat.add_zero] at hP
     obtain ⟨c0, c1, c2, c3, c4, c5⟩ := hP
     obtain ⟨A1, cc1, A2, cc2, A3, cc3⟩ := s
     simp only at hA1 ⊢
     subst hA1
     have HE := Lib.hid (hbw.trans ((alloc_below wr (.cells #[.int .i64 p.at_, .int .i64 p.params, .int .i64 p.locals, .int .i64 p.depth, .int .i64 p.level, .bool p.fn] 113)).mono (by omega)))
     obtain ⟨pa, pp, pl, pd, pv, pf⟩ := p
     simp only at c0 c1 c2 c3 c4 c5 HE HT
     by_cases e1 : pv = 1
     ·have d1 : (pv == 1) = true := by simp [e1]
      by_cases e2 : pp = 0
      ·have d2 : (pp == 0) = true := by simp [e2]
       have HT2 := Lib.hid (show modB m n = !pf by rw [HT.out]; unfold bodyB; simp [d1, d2])
       clear HT e1 e2
       go_wp2_with fail
       go_ret
       exact boolEnd_of HT2.out.symm HE.out
      ·have d2 : (pp == 0) = false := by simp [e2]
       have HT2 := Lib.hid (show modB m n = false by rw [HT.out]; unfold bodyB; simp [d2])
       clear HT e1 e2
       go_wp2_with fail
       go_ret
       exact boolEnd_of HT2.out.symm HE.out
     ·have d1 : (pv == 1) = false := by simp [e1]
      have HT2 := Lib.hid (show modB m n = false by rw [HT.out]; unfold bodyB; simp [d1])
      clear HT e1
      go_wp2_with fail
      go_ret
      exact boolEnd_of HT2.out.symm HE.out
theorem module_any (s : MS) (m : ModL) (n : Int) (hn : 0 ≤ n) (hn2 : n ≤ 140737488355328) (w : World) (hI : ModIn w s m) :
 Calls Tryz.prog 54 #[modV s m, .int .i64 n] w (BoolEnd w (modB m n)) := by
 cases h : headB m
 ·exact module_head s m n w hI.code_le hI.procs_le hI.imports_le hI.init_le h
 ·exact module_main s m n hn hn2 w hI h
end Go.Proofs.YtabenhpjgjjgnaaGreatDoor
/- mach. -/
namespace Go.Proofs.YtabenhpjgjjgnaaGreatDoor
open Go.RowKit
set_option maxRecDepth 100000
def errMod (ok : Bool) : Int := if ok then 0 else 200
def CheckEnd (w : World) (ok : Bool) (e : Ending) (w' : World) : Prop := ∃ k : Int, e = .returned (.tuple #[.int .i64 k, .int .i64 (errMod ok)]) ∧ Below w.heap.size w w'
theorem checkEnd_of {w w' : World} {ok : Bool} {k x : Int} (h : errMod ok = x) (hb : Below w.heap.size w w') : CheckEnd w ok (.returned (.tuple #[.int .i64 k, .int .i64 x])) w' := ⟨k, by rw [h], hb⟩
theorem errMod_false {ok : Bool} (h : ok = false) : errMod ok = 200 := by rw [h]; rfl
theorem box2' {w w' : World} {a b : Value} {t : TypeId} (hb : Below (w.heap.size + 1) (w.alloc (.cells #[a, b] t)) w') :
 w'.cell? ⟨w.heap.size, 0, none⟩ = some a ∧ w'.cell? ⟨w.heap.size, 1, none⟩ = some b ∧ Below w.heap.size w w' ∧ w.heap.size < w'.heap.size := by
 have hb' : Below (w.alloc (.cells #[a, b] t)).heap.size (w.alloc (.cells #[a, b] t)) w' := by simpa using hb
 exact box2 hb'
theorem checkB_len {ms : List ModL} {o : List Int} (h : withinB ms.length 1 64 = false) : checkB ms o = false := by unfold checkB; rw [h]; rfl
theorem checkB_mod {ms : List ModL} {o : List Int} (h : ms.all (modB · ms.length) = false) : checkB ms o = false := by unfold checkB; rw [h]; simp
theorem checkB_in {ms : List ModL} {o : List Int} (h : o.all (withinB · 0 (ms.length - 1)) = false) : checkB ms o = false := by unfold checkB; rw [h]; simp
theorem checkB_dup {ms : List ModL} {o : List Int} (h : ¬ o.Nodup) : checkB ms o = false := by unfold checkB; rw [decide_eq_false h]; simp
theorem checkB_ok {ms : List ModL} {o : List Int} (h1 : withinB ms.length 1 64 = true) (h2 : ms.all (modB · ms.length) = true) (h3 : o.all (withinB · 0 (ms.length - 1)) = true) (h4 : o.Nodup) : checkB ms o = true := by
 unfold checkB; rw [h1, h2, h3, decide_eq_true h4]; rfl
set_option maxHeartbeats 1000000 in
theorem check_any (A2 A3 : Option Addr) (c2 c3 : Nat) (ms : List ModL) (o : List Int) (hms : ms.length ≤ 140737488355328) (ho : o.length ≤ 140737488355328) (w : World) (hM : Mods w A2 ms) (hO : Ints w A3 o) :
 Calls Tryz.prog 24 #[.agg #[.slice A2 ms.length c2, .slice A3 o.length c3]] w (CheckEnd w (checkB ms o)) := by
 have HM := Lib.hid hM
 have HO := Lib.hid hO
 have HAL := Lib.hid (alloc_below w (.cells #[.slice A2 ms.length c2, .slice A3 o.length c3] 25))
 clear hM hO
 cases h1 : withinB ms.length 1 64
 ·have HX := Lib.hid (checkB_len (o := o) h1)
  go_enter Tryz.func24, Tryz.ntmps24
  go_wp2_with (first | (go_at_call 53; refine (within_any _ _ _ _).mono ?_; rintro e w' ⟨rfl, rfl⟩))
  go_ret2
  exact checkEnd_of (errMod_false HX.out) HAL.out
 have hb64 : 1 ≤ ms.length ∧ ms.length ≤ 64 := by
  have := h1
  simp [withinB] at this; omega
 obtain ⟨hl1, hl2⟩ := hb64
 have H1 := Lib.hid h1
 go_enter Tryz.func24, Tryz.ntmps24
 go_wp2_with (first | (go_at_call 53; refine (within_any _ _ _ _).mono ?_; rintro e w' ⟨rfl, rfl⟩))
 clear h1
 go_loopg [20] (ms.length) (fun g i wr => ∃ k : Nat, k + g = ms.length ∧ i = .int .i64 k ∧ (ms.take k).all (modB · ms.length) = true ∧ Below (w.heap.size + 1) (w.alloc (.cells #[.slice A2 ms.length c2, .slice A3 o.length c3] 25)) wr)
 case atStart => exact ⟨0, by omega, rfl, rfl, Below.refl _ _⟩
 case round =>
  obtain ⟨k, hk, rfl, hall, hb⟩ := hrel
  have HA := Lib.hid hall
  obtain ⟨b0, b1, hbw, hsz⟩ := box2' hb
  have HB := Lib.hid hb
  clear hall hb
  by_cases hlt : k < ms.length
  ·obtain ⟨b, off, hA2, hbl, hP⟩ := Each.at_ (HM.out.later hbw (Nat.le_refl _)) hlt
   have HS := Lib.hid (all_take_succ (modB · ms.length) ms k default hlt)
   have HF := Lib.hid (all_false_at (modB · ms.length) ms k default hlt)
   generalize ms.getD k default = m at *
   obtain ⟨s, hI, c0, c1, c2', c3', c4⟩ := hP
   have HI := Lib.hid (hI.later (alloc_below wr (.cells #[.string ⟨m.code.toArray⟩, .slice s.A1 m.procs.length s.c1, .slice s.A2 m.imports.length s.c2, .int .i64 m.data, .slice s.A3 m.init.length s.c3] 68)) (Nat.le_refl _))
   have hcl := hI.code_le
   clear hI
   subst hA2
   have hkI : (k : Int) < (ms.length : Int) := by omega
   go_wp2_with fail
   refine (module_any s m ms.length (by omega) (by omega) _ HI.out).mono ?_
   rintro e w5 ⟨rfl, hb5⟩
   obtain ⟨hb6, hz6⟩ := box_below hb5
   have hb7 := HB.out.trans (hb6.mono (by omega))
   clear hb5 c0 c1 c2' c3' c4 b0 b1
   cases hq : modB m ms.length
   ·go_wp2_with fail
    go_ret2
    exact checkEnd_of (errMod_false (checkB_mod (HF.out hq))) (hbw.trans (hb6.mono (by omega)))
   ·go_wp2_with fail
    go_roundg (gk - 1)
    case measure => omega
    case rel => exact ⟨k + 1, by omega, by go_num, by rw [HS.out, HA.out, hq]; rfl, hb7⟩
  ·obtain rfl : k = ms.length := by omega
   have HA1 := Lib.hid (show ms.all (modB · ms.length) = true by have := HA.out; rwa [List.take_length] at this)
   clear HA
   rename World => wA
   have hmm := @run_makeMap Tryz.prog
   go_wp2_with fail
   clear hmm
   have HOw := Lib.hid (HO.out.later hbw (Nat.le_refl _))
   go_loopg [35] (o.length) (fun g i wr => ∃ k : Nat, k + g = o.length ∧ i = .int .i64 k ∧ (o.take k).all (withinB · 0 (ms.length - 1)) = true ∧ (o.take k).Nodup ∧ SeenAt wr wA.heap.size intKey (o.take k) ∧ Below wA.heap.size wA wr)
   case atStart => exact ⟨0, by omega, rfl, rfl, List.nodup_nil, SeenAt.new wA intKey, alloc_below wA _⟩
   case round =>
    obtain ⟨k, hk, rfl, hall, hnd, hseen, hb2⟩ := hrel
    have HA := Lib.hid hall
    have HN := Lib.hid hnd
    have HSe := Lib.hid hseen
    have HB2 := Lib.hid hb2
    have HF2 := Lib.hid (hbw.trans (hb2.mono (by omega)))
    clear hall hnd hseen hb2
    by_cases hlt : k < o.length
    ·obtain ⟨b, off, hA3, hbl, c0⟩ := Each.at_ (HOw.out.later HB2.out (Nat.le_refl _)) hlt
     have HS := Lib.hid (all_take_succ (withinB · 0 (ms.length - 1)) o k 0 hlt)
     have HF := Lib.hid (all_false_at (withinB · 0 (ms.length - 1)) o k 0 hlt)
     have HD := Lib.hid (not_nodup_at o k 0 hlt)
     have HNN := Lib.hid (nodup_take_succ o k 0 hlt)
     have HTK := Lib.hid (show o.take (k + 1) = o.take k ++ [o.getD k 0] by rw [List.take_succ_eq_append_getElem hlt]; simp [List.getD_eq_getElem?_getD, hlt])
     generalize o.getD k 0 = x at *
     subst hA3
     have hkI : (k : Int) < (o.length : Int) := by omega
     rw [Nat.mul_one] at c0
     have hlook := look_int wr wA.heap.size (o.take k) HSe.out x
     cases hq : withinB x 0 (ms.length - 1)
     ·go_wp2_with (first | (go_at_call 53; refine (within_any _ _ _ _).mono ?_; rintro e w' ⟨rfl, rfl⟩))
      go_ret2
      exact checkEnd_of (errMod_false (checkB_in (HF.out hq))) HF2.out
     ·by_cases hx : x ∈ o.take k
      ·rw [if_pos hx] at hlook
       have HX := Lib.hid hx
       clear hx
       go_wp2_with (first | (go_at_call 53; refine (within_any _ _ _ _).mono ?_; rintro e w' ⟨rfl, rfl⟩))
       go_ret2
       exact checkEnd_of (errMod_false (checkB_dup (HD.out HX.out))) HF2.out
      ·rw [if_neg hx] at hlook
       have hput := put_int wr wA.heap.size (o.take k) HSe.out x hx
       have HP := Lib.hid (seen_put_at HSe.out x)
       have HX := Lib.hid hx
       clear hx
       go_wp2_with (first | (go_at_call 53; refine (within_any _ _ _ _).mono ?_; rintro e w' ⟨rfl, rfl⟩))
       go_roundg (gk - 1)
       case measure => omega
       case rel => exact ⟨k + 1, by omega, by go_num, by rw [HS.out, HA.out, hq]; rfl, HNN.out.2 ⟨HN.out, HX.out⟩, by rw [HTK.out]; exact HP.out, putSeen_below HB2.out (Nat.le_refl _)⟩
    ·obtain rfl : k = o.length := by omega
     have HA2 := Lib.hid (show o.all (withinB · 0 (ms.length - 1)) = true by have := HA.out; rwa [List.take_length] at this)
     have HN2 := Lib.hid (show o.Nodup by have := HN.out; rwa [List.take_length] at this)
     clear HA HN
     go_wp2_with fail
     go_ret2
     exact checkEnd_of (by rw [checkB_ok H1.out HA1.out HA2.out HN2.out]; rfl) HF2.out
end Go.Proofs.YtabenhpjgjjgnaaGreatDoor
/- A region that draws its order, whose last operations. -/
namespace Go.Proofs.YtabenhpjgjjgnaaGreatDoor
open Go.RowKit
section
variable {P : Program} {ops : Array Oper} {Q : Exit → Act → World → Prop} {md : Region.Mode} {S S2 : World → Prop} {late : List Nat}
def wpM (P : Program) (md : Region.Mode) (ops : Array Oper) (Q : Exit → Act → World → Prop) (S S2 : World → Prop) (late : List Nat) : Nat → Array Bool → Act → World → Prop
 | 0, listed, a, w => Region.ready md ops listed = [] ∧ Q .normal a w
 | n + 1, listed, a, w => (Region.ready md ops listed = [] → Q .normal a w) ∧ ∀ j ∈ Region.ready md ops listed,
     wpOp P ops Q j (fun a' w' => S2 w' ∧ if late.contains j then wpAnyH P md ops Q S2 n (listed.setIfInBounds j true) a' w' else S w' ∧ wpM P md ops Q S S2 late n (listed.setIfInBounds j true) a' w') a w
theorem any_of_M : ∀ (n : Nat) (listed : Array Bool) (a : Act) (w : World), wpM P md ops Q S S2 late n listed a w → wpAny P md ops Q n listed a w
 | 0, _, _, _, h => h
 | n + 1, listed, _, _, h => ⟨h.1, fun j hj => wpOp_mono (fun a' w' h' => by
     replace h' := h'.2
     cases hl : late.contains j
     ·rw [hl] at h'; exact any_of_M n _ a' w' h'.2
     ·rw [hl] at h'; exact wpAny_of_held _ _ _ _ h') (h.2 j hj)⟩
theorem late_waits {i j : Nat} {listed : Array Bool} (hl : ∀ oj, ops[j]? = some oj → ∃ e ∈ oj.after, Region.binds md e = true ∧ e.on = i) (hi : i ∈ Region.ready md ops listed) : j ∉ Region.ready md ops listed := fun hj => by
 obtain ⟨_, oj, hoj, hall⟩ := mem_ready.1 hj
 obtain ⟨e, he, hb, heq⟩ := hl oj hoj
 have h1 := hall e he hb
 have h0 := (mem_ready.1 hi).1
 rw [heq] at h1
 rcases Nat.lt_or_ge i listed.size with h | h
 ·simp [h] at h0 h1; rw [h0] at h1; cases h1
 ·simp [Array.getElem?_eq_none h] at h1
theorem M_first {i : Nat} {oi : Oper} {v : Value} (hi : ops[i]? = some oi) (hsel : ∀ (j : Nat) (o : Oper) cs b, ops[j]? = some o → o.op ≠ .select cs b) (hQ : ∀ c a w, Q (.panic c) (a.put oi.dst v) w → Q (.panic c) a w)
 (hlate : ∀ j, late.contains j = true → ∀ oj, ops[j]? = some oj → ∃ e ∈ oj.after, Region.binds md e = true ∧ e.on = i) :
 ∀ (n : Nat) (listed : Array Bool) (a : Act) (w : World), (∀ j oj, ops[j]? = some oj → j ≠ i → listed.getD j true = false → (∀ e ∈ oj.after, Region.binds md e = true → e.on ≠ i) → oi.apart ops oj = true) →
   i ∈ Region.ready md ops listed → YieldsIf P ops S oi v a → S w → S2 w → late.contains i = false → wpM P md ops Q S S2 late n (listed.setIfInBounds i true) (a.put oi.dst v) w → wpM P md ops Q S S2 late (n + 1) listed a w
 | n, listed, a, w, hfree, hr, hy, hS, hS2, hil, H => by
   refine ⟨fun h => absurd hr (by rw [h]; exact List.not_mem_nil), fun j hj => ?_⟩
   by_cases hji : j = i
   ·subst hji
    exact hy.wpOp hi hS ⟨hS2, by rw [hil]; exact ⟨hS, H⟩⟩
   have hjl : late.contains j = false := by
    cases hc : late.contains j
    ·rfl
    ·exact absurd hj (late_waits (hlate j hc) hr)
   cases n with
   | zero =>
     have := ready_mono hj hji
     rw [H.1] at this
     cases this
   | succ n =>
     have h1 := H.2 j (ready_mono hj hji)
     obtain ⟨hjun, oj, hoj, hall⟩ := mem_ready.1 hj
     have hnot : ∀ e ∈ oj.after, Region.binds md e = true → e.on ≠ i := fun e he hb heq => by
      have := late_waits (ops := ops) (md := md) (i := i) (j := j) (listed := listed) (fun oj' h' => by rw [hoj] at h'; cases h'; exact ⟨e, he, hb, heq⟩) hr
      exact this hj
     have h2 := wpOp_putIf hoj (hfree j oj hoj hji hjun hnot) (fun cs b => hsel i oi cs b hi) (fun cs b => hsel j oj cs b hoj) hQ hy h1
     refine wpOp_mono (fun a' w' h3 => ?_) h2
     obtain ⟨hy', h5, h4⟩ := h3
     rw [hjl] at h4 ⊢
     refine ⟨h5, h4.1, M_first hi hsel hQ hlate n _ a' w' (fun k ok hk hki hun hno => hfree k ok hk hki ?_ hno) (ready_mono hr (Ne.symm hji)) hy' h4.1 h5 hil ?_⟩
     ·by_cases hjk : j = k
      ·subst hjk; exact hjun
      ·rw [getD_set_ne true hjk] at hun; exact hun
     ·rw [Array.setIfInBounds_comm _ _ hji]; exact h4.2
theorem M_first2 {i : Nat} {oi : Oper} {v : Value} (hi : ops[i]? = some oi) (hsel : ∀ (j : Nat) (o : Oper) cs b, ops[j]? = some o → o.op ≠ .select cs b) (hQ : ∀ c a w, Q (.panic c) (a.put oi.dst v) w → Q (.panic c) a w) :
 ∀ (n : Nat) (listed : Array Bool) (a : Act) (w : World), (∀ j oj, ops[j]? = some oj → j ≠ i → listed.getD j true = false → (∀ e ∈ oj.after, Region.binds md e = true → e.on ≠ i) → oi.apart ops oj = true) →
   i ∈ Region.ready md ops listed → YieldsIf P ops S2 oi v a → S w → S2 w → late.contains i = false → wpM P md ops Q S S2 late n (listed.setIfInBounds i true) (a.put oi.dst v) w → wpM P md ops Q S S2 late (n + 1) listed a w
 | n, listed, a, w, hfree, hr, hy, hS, hS2, hil, H => by
   refine ⟨fun h => absurd hr (by rw [h]; exact List.not_mem_nil), fun j hj => ?_⟩
   by_cases hji : j = i
   ·subst hji
    exact hy.wpOp hi hS2 ⟨hS2, by rw [hil]; exact ⟨hS, H⟩⟩
   cases n with
   | zero =>
     have := ready_mono hj hji
     rw [H.1] at this
     cases this
   | succ n =>
     have h1 := H.2 j (ready_mono hj hji)
     obtain ⟨hjun, oj, hoj, hall⟩ := mem_ready.1 hj
     have hnot : ∀ e ∈ oj.after, Region.binds md e = true → e.on ≠ i := fun e he hb heq => by
      have := late_waits (ops := ops) (md := md) (i := i) (j := j) (listed := listed) (fun oj' h' => by rw [hoj] at h'; cases h'; exact ⟨e, he, hb, heq⟩) hr
      exact this hj
     have h2 := wpOp_putIf hoj (hfree j oj hoj hji hjun hnot) (fun cs b => hsel i oi cs b hi) (fun cs b => hsel j oj cs b hoj) hQ hy h1
     have hfree' : ∀ k ok, ops[k]? = some ok → k ≠ i → (listed.setIfInBounds j true).getD k true = false → (∀ e ∈ ok.after, Region.binds md e = true → e.on ≠ i) → oi.apart ops ok = true := fun k ok hk hki hun hno => by
      refine hfree k ok hk hki ?_ hno
      by_cases hjk : j = k
      ·subst hjk; exact hjun
      ·rw [getD_set_ne true hjk] at hun; exact hun
     refine wpOp_mono (fun a' w' h3 => ?_) h2
     obtain ⟨hy', h5, h4⟩ := h3
     refine ⟨h5, ?_⟩
     cases hc : late.contains j
     ·rw [hc] at h4
      refine ⟨h4.1, M_first2 hi hsel hQ n _ a' w' hfree' (ready_mono hr (Ne.symm hji)) hy' h4.1 h5 hil ?_⟩
      rw [Array.setIfInBounds_comm _ _ hji]; exact h4.2
     ·rw [hc] at h4
      refine wpAnyH_first hi hsel hQ n _ a' w' hfree' (ready_mono hr (Ne.symm hji)) hy' h5 ?_
      rw [Array.setIfInBounds_comm _ _ hji]; exact h4
def lateB (md : Region.Mode) (ops : Array Oper) (late : List Nat) (i : Nat) : Bool := late.all fun j => match ops[j]? with
 | some oj => oj.after.any fun e => Region.binds md e && e.on == i
 | none => true
theorem lateB_spec {i : Nat} (h : lateB md ops late i = true) (j : Nat) (hj : late.contains j = true) (oj : Oper) (ho : ops[j]? = some oj) : ∃ e ∈ oj.after, Region.binds md e = true ∧ e.on = i := by
 have := List.all_eq_true.1 h j (by simpa using hj)
 rw [ho] at this
 obtain ⟨e, he, hb⟩ := Array.any_eq_true'.1 this
 simp only [Bool.and_eq_true, beq_iff_eq] at hb
 exact ⟨e, he, hb.1, hb.2⟩
theorem M_take {i : Nat} {oi : Oper} {v : Value} {n : Nat} {listed : Array Bool} {a : Act} {w : World} (hi : ops[i]? = some oi) (hs : Region.noSelect ops = true) (hf : Region.free md ops listed i = true) (hr : (Region.ready md ops listed).contains i = true)
 (hl : lateB md ops late i = true) (hil : late.contains i = false) (hQ : ∀ c a w, Q (.panic c) (a.put oi.dst v) w → Q (.panic c) a w) (hy : YieldsIf P ops S oi v a) (hS : S w) (hS2 : S2 w)
 (h : wpM P md ops Q S S2 late n (listed.setIfInBounds i true) (a.put oi.dst v) w) : wpM P md ops Q S S2 late (n + 1) listed a w :=
 M_first hi (Region.noSelect_spec hs) hQ (lateB_spec hl) n listed a w (Region.free_spec hi hf) (by simpa using hr) hy hS hS2 hil h
theorem M_take2 {i : Nat} {oi : Oper} {v : Value} {n : Nat} {listed : Array Bool} {a : Act} {w : World} (hi : ops[i]? = some oi) (hs : Region.noSelect ops = true) (hf : Region.free md ops listed i = true) (hr : (Region.ready md ops listed).contains i = true)
 (hil : late.contains i = false) (hQ : ∀ c a w, Q (.panic c) (a.put oi.dst v) w → Q (.panic c) a w) (hy : YieldsIf P ops S2 oi v a) (hS : S w) (hS2 : S2 w)
 (h : wpM P md ops Q S S2 late n (listed.setIfInBounds i true) (a.put oi.dst v) w) : wpM P md ops Q S S2 late (n + 1) listed a w :=
 M_first2 hi (Region.noSelect_spec hs) hQ n listed a w (Region.free_spec hi hf) (by simpa using hr) hy hS hS2 hil h
theorem wp_region_M {id : Nat} {a : Act} {w : World} (S S2 : World → Prop) (late : List Nat) (hm : P.follows .mixedOrders = true) (h : wpM P .any ops Q S S2 late ops.size (Array.replicate ops.size false) a w.drew) : (Code.region id ops true).wp P Q a w :=
 wp_region_any hm (any_of_M _ _ _ _ h)
theorem M_all {n : Nat} {listed : Array Bool} {a : Act} {w : World} {rs : List Nat} (hr : Region.ready md ops listed = rs) (hne : rs ≠ [])
 (h : ∀ j ∈ rs, wpOp P ops Q j (fun a' w' => S2 w' ∧ if late.contains j then wpAnyH P md ops Q S2 n (listed.setIfInBounds j true) a' w' else S w' ∧ wpM P md ops Q S S2 late n (listed.setIfInBounds j true) a' w') a w) : wpM P md ops Q S S2 late (n + 1) listed a w :=
 ⟨fun h0 => absurd (hr ▸ h0) hne, hr ▸ h⟩
theorem M_step {n : Nat} {listed : Array Bool} {a : Act} {w : World} {j : Nat} {o : Oper} (ho : ops[j]? = some o) (hl : late.contains j = false)
 (h : ∀ K' : Act → World → Prop, Shut (∀ a w, S2 w → S w → wpM P md ops Q S S2 late n (listed.setIfInBounds j true) a w → K' a w) → if Region.wanted o (yielded ops a.tmps) = true then Oper.wp P o a w K' Q else K' (a.put o.dst undef) w) :
 wpOp P ops Q j (fun a' w' => S2 w' ∧ if late.contains j then wpAnyH P md ops Q S2 n (listed.setIfInBounds j true) a' w' else S w' ∧ wpM P md ops Q S S2 late n (listed.setIfInBounds j true) a' w') a w :=
 wpOp_step ho fun K' hK => h K' fun a' w' h2 h1 hm => hK a' w' ⟨h2, by rw [hl]; exact ⟨h1, hm⟩⟩
theorem M_late {n : Nat} {listed : Array Bool} {a : Act} {w : World} {j : Nat} {o : Oper} (ho : ops[j]? = some o) (hl : late.contains j = true)
 (h : ∀ K' : Act → World → Prop, Shut (∀ a w, S2 w → wpAnyH P md ops Q S2 n (listed.setIfInBounds j true) a w → K' a w) → if Region.wanted o (yielded ops a.tmps) = true then Oper.wp P o a w K' Q else K' (a.put o.dst undef) w) :
 wpOp P ops Q j (fun a' w' => S2 w' ∧ if late.contains j then wpAnyH P md ops Q S2 n (listed.setIfInBounds j true) a' w' else S w' ∧ wpM P md ops Q S S2 late n (listed.setIfInBounds j true) a' w') a w :=
 wpOp_step ho fun K' hK => h K' fun a' w' h2 hm => hK a' w' ⟨h2, by rw [hl]; exact hm⟩
end
end Go.Proofs.YtabenhpjgjjgnaaGreatDoor
/- How a new machine begins, of any program. -/
namespace Go.Proofs.YtabenhpjgjjgnaaGreatDoor
open Go.RowKit
set_option maxRecDepth 100000
theorem flat_ints8 (l : List Int) : l.flatMap intCells8 = l.map (Value.int .i64) := by
 induction l with
 | nil => rfl
 | cons x l ih => simp [intCells8, ih]
def initRow (n : Nat) (at_ : Int) : List Nat → (Nat → Nat) → Nat → Nat
 | [], ws => ws
 | x :: l, ws => initRow n (at_ + 1) l (storeM n ws at_ x)
def initAll (n : Nat) (at_ : Int) : List ModL → (Nat → Nat) → Nat → Nat
 | [], ws => ws
 | m :: l, ws => initAll n (at_ + m.data) l (initRow n at_ m.init ws)
theorem initRow_snoc (n : Nat) (l : List Nat) (x : Nat) : ∀ (at_ : Int) (ws : Nat → Nat), initRow n at_ (l ++ [x]) ws = storeM n (initRow n at_ l ws) (at_ + l.length) x := by
 induction l with
 | nil => intro a ws; simp [initRow]
 | cons y l ih => intro a ws; simp only [List.cons_append, initRow, ih, List.length_cons]; congr 1; omega
def sumD : List ModL → Int
 | [] => 0
 | m :: l => m.data + sumD l
theorem initAll_snoc (n : Nat) (l : List ModL) (m : ModL) : ∀ (at_ : Int) (ws : Nat → Nat), initAll n at_ (l ++ [m]) ws = initRow n (at_ + sumD l) m.init (initAll n at_ l ws) := by
 induction l with
 | nil => intro a ws; simp [initAll, sumD]
 | cons y l ih => intro a ws; simp only [List.cons_append, initAll, ih, sumD, Int.add_assoc]
def zeroG (ws : Nat → Nat) (inp : List UInt8) : St := ⟨0, 0, 0, 0, 0, 0, 0, 0, 0, 0, 0, [], ws, inp, [], 0, []⟩
def trapG (r : St × Nat) : St := if r.2 ≠ 0 then { r.1 with kind := 2, trap := r.2 } else r.1
def startG (K : MK) (inp : List UInt8) : St := { trapG (beginsM K (zeroG (initAll K.n 1 K.mods (fun _ => 0)) inp)) with at_ := (trapG (beginsM K (zeroG (initAll K.n 1 K.mods (fun _ => 0)) inp))).next }
def termErr (i : List UInt8) (most : Int) : Int := if 16384 < (i.length : Int) then 5 else if most < 0 ∨ 16384 < most then 2 else 0
def TermAll (i : List UInt8) (most : Int) (w : World) (e : Ending) (w' : World) : Prop := (∃ x : Int, (x = 5 ∨ x = 2) ∧ termErr i most = x ∧ e = .returned (.tuple #[.pointer none, .int .i64 x]) ∧ w' = w) ∨ ((termErr i most = 0 ∧ (0 ≤ most ∧ most ≤ 16384)) ∧ TermEnd i most w e w')
theorem termNew_all (i : List UInt8) (hi : i.length ≤ 1000000) (most : Int) (W : World) (h1 : -9223372036854775808 ≤ most) (h2 : most ≤ 9223372036854775807) : Calls Tryz.prog 26 #[.string ⟨i.toArray⟩, .int .i64 most] W (TermAll i most W) := by
 by_cases hl : 16384 < (i.length : Int)
 ·have HE := Lib.hid (show termErr i most = 5 by unfold termErr; rw [if_pos hl])
  have hlB : (i.length : Int) ≤ 1000000 := by omega
  have d := decide_eq_true hl
  go_enter Tryz.func26, Tryz.ntmps26
  go_wp2_with fail
  go_ret2
  exact .inl ⟨_, by simp, HE.out, rfl, rfl⟩
 ·by_cases hm : most < 0 ∨ 16384 < most
  ·have HE := Lib.hid (show termErr i most = 2 by unfold termErr; rw [if_neg hl, if_pos hm])
   have hl' : (i.length : Int) ≤ 16384 := by omega
   by_cases h0 : most < 0
   ·go_enter Tryz.func26, Tryz.ntmps26
    go_wp2_with fail
    go_ret2
    exact .inl ⟨_, by simp, HE.out, rfl, rfl⟩
   ·have h3 : 16384 < most := by omega
    have h4 : 0 ≤ most := by omega
    go_enter Tryz.func26, Tryz.ntmps26
    go_wp2_with fail
    go_ret2
    exact .inl ⟨_, by simp, HE.out, rfl, rfl⟩
  ·refine (termNew_any i (by omega) most (by omega) (by omega) W).mono (fun e w' h => .inr ⟨⟨?_, by omega, by omega⟩, h⟩)
   unfold termErr
   rw [if_neg hl, if_neg hm]
def HeapAll (a n : Int) (w : World) (e : Ending) (w' : World) : Prop := ∃ bh bq, e = .returned (.tuple #[.pointer (some ⟨bh, 0, none⟩), .int .i64 0]) ∧ (w.heap.size ≤ bh ∧ w.heap.size ≤ bq ∧ bh ≠ bq) ∧ Bx bh #[.int .i64 a, .int .i64 n, .int .i64 0, .map (some bq)] 124 w' ∧ BlocksAt bq [] w' ∧ Below w.heap.size w w'
theorem heapNew_all (a n : Int) (h0 : 1 ≤ a) (h1 : a ≤ 65536) (h2 : 0 ≤ n) (h3 : n ≤ 65536 - a) (w : World) : Calls Tryz.prog 28 #[.int .i64 a, .int .i64 n] w (HeapAll a n w) := by
 have hmm := @run_makeMap Tryz.prog
 go_enter Tryz.func28, Tryz.ntmps28
 go_wp2_with fail
 go_ret2
 have h1 := Bx.new (w.alloc (.map #[] 0)) #[.int .i64 a, .int .i64 n, .int .i64 0, .map (some w.heap.size)] 124
 have h2 : BlocksAt w.heap.size [] ((w.alloc (.map #[] 0)).alloc (.cells #[.int .i64 a, .int .i64 n, .int .i64 0, .map (some w.heap.size)] 124)) := ⟨#[], 0, (Below.heap_alloc _ _ _ (by simp)).trans (heap_alloc_new w _), rfl, by simp, by simp⟩
 rw [World.size_alloc] at h1
 exact ⟨w.heap.size + 1, w.heap.size, rfl, ⟨by omega, by omega, by omega⟩, h1, h2, (((Below.refl _ _).alloc (Nat.le_refl _) _).alloc (by simp) _)⟩
theorem own_ints_mask8 {w : World} {B : Nat} {v : Value} {xs : List Int} (h : w.ownsRow B 3 1 v xs.length (xs.map (Value.int .i64))) (bs : List Nat) (hb : ∀ b ∈ bs, b < B) : ∃ A c, v = .slice A xs.length c ∧ Ints (mask bs w) A xs ∧ xs.length ≤ c := by
 have h' := h
 rcases h.2 with ⟨hv, hx⟩ | ⟨g, cap, cur, hv, hB, hg, hcap, _⟩
 ·exact ⟨none, 0, by rw [hv, hx], .inl hx, by omega⟩
 ·subst hv
  refine ⟨_, _, rfl, ?_, hcap⟩
  have hn : g ∉ bs := fun hm => by have := hb g hm; omega
  have hlt : g < w.heap.size := by
   rcases Nat.lt_or_ge g w.heap.size with h1 | h1
   ·exact h1
   ·rw [Array.getElem?_eq_none h1] at hg; cases hg
  refine .inr ⟨g, 0, rfl, by rw [mask_size]; exact hlt, fun j hj => ?_⟩
  have hc : (mask bs w).cell? ⟨g, 0 + j * 1, none⟩ = w.cell? ⟨g, 0 + j * 1, none⟩ := by
   unfold World.cell?
   rw [mask_at _ _ hn]
  show (mask bs w).cell? _ = _
  rw [hc]
  have := h'.cells (g := g) rfl j (.int .i64 (xs.getD j 0)) (by simp [List.getD_eq_getElem?_getD, hj])
  rw [WideShapes.add_plain] at this
  simpa using this
theorem mask_wide {B : Nat} {bs0 bs : List Nat} {w w' : World} (h : Below B w w') (hw : B ≤ w.heap.size) (hn : ∀ x ∈ bs, B ≤ x) : Below B (mask bs0 w) (mask (bs0 ++ bs) w') := by
 refine ⟨h.os, h.tape, h.output, by rw [mask_size, mask_size]; exact h.size, fun k hk => ?_⟩
 by_cases hk0 : k ∈ bs0
 ·rw [mask_in _ _ hk0 (by omega), mask_in _ _ (List.mem_append_left _ hk0) (by have := h.size; omega)]
 ·rw [mask_at _ _ hk0, mask_at _ _ (fun hm => by
   rcases List.mem_append.1 hm with h1 | h1
   ·exact hk0 h1
   ·have := hn k h1; omega)]
  exact h.block k hk
theorem mask_more9 {b : Nat} {bs0 bs : List Nat} {wr w' : World} (ho : Only [b] wr w') (hb : b ∈ bs) (hbs : ∀ x ∈ bs, x = b ∨ wr.heap.size ≤ x) : Below wr.heap.size (mask (bs0 ++ [b]) wr) (mask (bs0 ++ bs) w') := by
 have hz : wr.heap.size ≤ w'.heap.size := ho.size
 refine ⟨ho.os, ho.tape, ho.output, by rw [mask_size, mask_size]; exact hz, fun k hk => ?_⟩
 by_cases hkm : k ∈ bs0 ++ [b]
 ·have : k ∈ bs0 ++ bs := by
   rcases List.mem_append.1 hkm with h | h
   ·exact List.mem_append_left _ h
   ·rw [List.mem_singleton.1 h]; exact List.mem_append_right _ hb
  rw [mask_in _ _ hkm hk, mask_in _ _ this (by omega)]
 ·have hne : k ∉ bs0 ∧ k ≠ b := ⟨fun h => hkm (List.mem_append_left _ h), fun h => hkm (List.mem_append_right _ (by simp [h]))⟩
  rw [mask_at _ _ hkm, mask_at _ _ (fun hm => by
   rcases List.mem_append.1 hm with h | h
   ·exact hne.1 h
   ·rcases hbs k h with h | h
    ·exact hne.2 h
    ·omega)]
  exact ho.block hk (by simpa using hne.2)
theorem mask_same {B : Nat} {bs0 : List Nat} {w w' : World} (h : Below B w w') (hw : B ≤ w.heap.size) : Below B (mask bs0 w) (mask bs0 w') := by
 have := mask_wide (bs0 := bs0) (bs := []) h hw (by simp)
 rwa [List.append_nil] at this
theorem memNew_eq9 {x : Int} {n : Nat} (hx : x = n) (hn : n ≤ 65535) (w : World) : Calls Tryz.prog 27 #[.int .i64 x] w (MemEnd n w) := by subst hx; exact memNew_any n hn w
theorem At.less {K : MK} {bs0 : List Nat} {S : St} {W : World} (h : At { K with bs := bs0 ++ K.bs } S W) : At K S W := by
 have hr : Reads (mask (bs0 ++ K.bs) W) (mask K.bs W) := ⟨fun b o v hc => by
  have hn := mask_notin hc
  have hn2 : b ∉ K.bs := fun hm => hn (List.mem_append_right _ hm)
  have := mask_cell hc
  unfold World.cell? at this ⊢
  rw [mask_at _ _ hn2]; exact this, by rw [mask_size, mask_size]; exact Nat.le_refl _⟩
 obtain ⟨A, c, h1, h2, h3⟩ := h.box
 exact ⟨⟨A, c, h1, h2.reads hr, h3⟩, h.term, h.mem, ⟨h.hp.box, h.hp.map⟩, h.mods.reads hr, h.order.reads hr, h.data.reads hr, h.first.reads hr, fun b hb => h.old b (List.mem_append_right _ hb)⟩
theorem beginsG_keep {K : MK} (S : St) : (beginsM K S).1.steps = S.steps ∧ (beginsM K S).1.trap = S.trap ∧ (beginsM K S).1.inp = S.inp ∧ (beginsM K S).1.args = S.args := by
 unfold beginsM
 split
 ·exact ⟨rfl, rfl, rfl, rfl⟩
 ·split <;> exact ⟨rfl, rfl, rfl, rfl⟩
theorem At.big {K : MK} {bs0 : List Nat} {S S' : St} {W W' : World} (h : At { K with bs := bs0 ++ K.bs } S W) (ho : Only K.bs W W') (hK : At K S' W') (ha : S'.args = []) : At { K with bs := bs0 ++ K.bs } S' W' := by
 have hO : Only (bs0 ++ K.bs) W W' := by
  refine ⟨ho.os, ho.tape, ho.output, by rw [mask_size, mask_size]; exact ho.size, fun k hk => ?_⟩
  by_cases hm : k ∈ bs0 ++ K.bs
  ·rw [mask_in _ _ hm hk, mask_in _ _ hm (Nat.lt_of_lt_of_le hk ho.size)]
  ·rw [mask_at _ _ hm, mask_at _ _ hm]
   exact ho.block hk (fun h => hm (List.mem_append_right _ h))
 obtain ⟨A, c, h1, h2, h3⟩ := hK.box
 exact ⟨⟨A, c, h1, by rw [ha]; exact .inl rfl, h3⟩, hK.term, hK.mem, ⟨hK.hp.box, hK.hp.map⟩, h.mods.later hO (by rw [mask_size]; exact Nat.le_refl _), h.order.later hO (by rw [mask_size]; exact Nat.le_refl _), h.data.later hO (by rw [mask_size]; exact Nat.le_refl _), h.first.later hO (by rw [mask_size]; exact Nat.le_refl _), fun b hb => Nat.lt_of_lt_of_le (h.old b hb) ho.size⟩
def newErr (ms : List ModL) (o : List Int) (st hp out : Int) (inp : List UInt8) : Int := if checkB ms o = false then 200 else if st < 0 ∨ hp < 0 ∨ 65535 < st ∨ 65535 < hp ∨ 65535 < sumD ms + st + hp then 2 else termErr inp out
structure NewG (K : MK) (ms : List ModL) (o : List Int) (dl fl : List Int) (st hp out : Int) : Prop where
 mods : K.mods = ms
 order : K.order = o
 low : K.low = 1 + sumD ms
 high : K.high = 1 + sumD ms + st
 n : (K.n : Int) = sumD ms + st + hp
 most : K.most = out
 data : K.data = dl
 first : K.first = fl
 hn : K.hn = hp
def NewAll (bs0 : List Nat) (ms : List ModL) (o : List Int) (dl fl : List Int) (st hp out : Int) (inp : List UInt8) (W : World) (e : Ending) (w' : World) : Prop :=
 (∃ x : Int, (x = 200 ∨ x = 2 ∨ x = 5) ∧ newErr ms o st hp out inp = x ∧ e = .returned (.tuple #[.pointer none, .int .i64 x]) ∧ Below W.heap.size W w') ∨
  (newErr ms o st hp out inp = 0 ∧ ∃ K : MK, e = .returned (.tuple #[.pointer (some ⟨K.b, 0, none⟩), .int .i64 0]) ∧ KOk K ∧ NewG K ms o dl fl st hp out ∧ At { K with bs := bs0 ++ K.bs } (startG K inp) w' ∧ (∀ b ∈ K.bs, W.heap.size ≤ b) ∧ Below W.heap.size W w')
end Go.Proofs.YtabenhpjgjjgnaaGreatDoor
