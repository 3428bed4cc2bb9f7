/- mach.within, mach.may. No condition. -/
import Derived.Test.YtckbfocbainlpaaIa
import Derived.IntWalk
import Derived.Deep.LoopGhost
namespace Go.Proofs.Ytckbfocbainlpaa
open Go.RowKit
set_option maxRecDepth 100000

theorem within_any (n lo hi : Int) (w : World) : Calls Try.prog 50 #[.int .i64 n, .int .i64 lo, .int .i64 hi] w fun e w' => e = .returned (.bool (withinB n lo hi)) ∧ w = w' := by
  by_cases h : lo ≤ n
  · have h1 : decide (lo ≤ n) = true := by simpa using h
    go_enter Try.func50, Try.ntmps50
    go_wp2_with fail
    go_ret
    exact ⟨by unfold withinB; rw [h1]; rfl, rfl⟩
  · have h1 : decide (lo ≤ n) = false := by simpa using h
    go_enter Try.func50, Try.ntmps50
    go_wp2_with fail
    go_ret
    exact ⟨by unfold withinB; rw [h1]; rfl, rfl⟩

set_option maxHeartbeats 1000000 in
theorem may_any (p : ProcL) (s : MS) (m : ModL) (hm : m.code.length ≤ 140737488355328) (w : World) : Calls Try.prog 61 #[procV p, modV s m] w (BoolEnd w (mayB p m.code.length)) := by
  have HB := Lib.hid (((Below.refl w.heap.size w).alloc (Nat.le_refl _) (.cells #[.int .i64 p.at_, .int .i64 p.params, .int .i64 p.locals, .int .i64 p.depth, .int .i64 p.level, .bool p.fn] 90)).alloc (by simp) (.cells #[.string ⟨m.code.toArray⟩, .slice s.A1 m.procs.length s.c1, .slice s.A2 m.imports.length s.c2, .int .i64 m.data, .slice s.A3 m.init.length s.c3] 41))
  obtain ⟨pa, pp, pl, pd, pv, pf⟩ := p
  unfold procV modV mayB
  simp only at HB ⊢
  cases h1 : withinB pp 0 65535
  · go_enter Try.func61, Try.ntmps61
    go_wp2_with (first | (go_at_call 50; refine (within_any _ _ _ _).mono ?_; rintro e w' ⟨rfl, rfl⟩))
    go_ret
    exact ⟨rfl, HB.out⟩
  cases h2 : withinB pl 0 65535
  · go_enter Try.func61, Try.ntmps61
    go_wp2_with (first | (go_at_call 50; refine (within_any _ _ _ _).mono ?_; rintro e w' ⟨rfl, rfl⟩))
    go_ret
    exact ⟨rfl, HB.out⟩
  cases h3 : withinB pd 0 65535
  · go_enter Try.func61, Try.ntmps61
    go_wp2_with (first | (go_at_call 50; refine (within_any _ _ _ _).mono ?_; rintro e w' ⟨rfl, rfl⟩))
    go_ret
    exact ⟨rfl, HB.out⟩
  cases h4 : withinB pa 0 m.code.length
  · go_enter Try.func61, Try.ntmps61
    go_wp2_with (first | (go_at_call 50; refine (within_any _ _ _ _).mono ?_; rintro e w' ⟨rfl, rfl⟩))
    go_ret
    exact ⟨rfl, HB.out⟩
  cases h5 : withinB pv 1 16
  · go_enter Try.func61, Try.ntmps61
    go_wp2_with (first | (go_at_call 50; refine (within_any _ _ _ _).mono ?_; rintro e w' ⟨rfl, rfl⟩))
    go_ret
    exact ⟨rfl, HB.out⟩
  · go_enter Try.func61, Try.ntmps61
    go_wp2_with (first | (go_at_call 50; refine (within_any _ _ _ _).mono ?_; rintro e w' ⟨rfl, rfl⟩))
    go_ret
    exact ⟨rfl, HB.out⟩
end Go.Proofs.Ytckbfocbainlpaa
