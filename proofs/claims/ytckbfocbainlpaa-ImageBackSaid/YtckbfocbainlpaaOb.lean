/- obj.module; the document's MayModule. Condition: what lies in memory can lie there. -/
import Derived.Test.YtckbfocbainlpaaOp
import Derived.Test.YtckbfocbainlpaaIf
namespace Go.Proofs.Ytckbfocbainlpaa
open Go.RowKit
set_option maxRecDepth 100000

/-- One module that lies alone in new memory, without imports. -/
theorem mods_one (w : World) (s : MS) (m : ModL) (hI : ModIn w s m) (T : TypeId) :
    Mods (w.alloc (.cells #[.string ⟨m.code.toArray⟩, .slice s.A1 m.procs.length s.c1, .slice none 0 0, .int .i64 m.data, .slice s.A3 m.init.length s.c3] T)) (some ⟨w.heap.size, 0, none⟩) [noImp m] := by
  refine .inr ⟨w.heap.size, 0, rfl, by simp, fun j hj => ?_⟩
  obtain rfl : j = 0 := by simp at hj; omega
  have hb := heap_alloc_new w (.cells #[.string ⟨m.code.toArray⟩, .slice s.A1 m.procs.length s.c1, .slice none 0 0, .int .i64 m.data, .slice s.A3 m.init.length s.c3] T)
  have hc : ∀ o, (w.alloc (.cells #[.string ⟨m.code.toArray⟩, .slice s.A1 m.procs.length s.c1, .slice none 0 0, .int .i64 m.data, .slice s.A3 m.init.length s.c3] T)).cell? ⟨w.heap.size, o, none⟩ = #[.string ⟨m.code.toArray⟩, .slice s.A1 m.procs.length s.c1, .slice none 0 0, .int .i64 m.data, .slice s.A3 m.init.length s.c3][o]? := fun o => by
    unfold World.cell?; rw [hb]; simp
  have hA := alloc_below w (.cells #[.string ⟨m.code.toArray⟩, .slice s.A1 m.procs.length s.c1, .slice none 0 0, .int .i64 m.data, .slice s.A3 m.init.length s.c3] T)
  refine ⟨⟨s.A1, s.c1, none, 0, s.A3, s.c3⟩, ⟨hI.procs.later hA (Nat.le_refl _), .inl rfl, hI.init.later hA (Nat.le_refl _), hI.code_le, hI.procs_le, Nat.zero_le _, hI.init_le⟩, hc 0, hc 1, hc 2, hc 3, hc 4⟩

set_option maxHeartbeats 1000000 in
theorem objModule_any (s : MS) (m : ModL) (w : World) (hI : ModIn w s m) : Calls Try.prog 41 #[modV s m] w (BoolEnd w (modOkB m)) := by
  have hil := hI.imports_le
  have hpl := hI.procs_le
  have hnl := hI.init_le
  have hcl := hI.code_le
  have HW := Lib.hid (alloc_below w (.cells #[.string ⟨m.code.toArray⟩, .slice s.A1 m.procs.length s.c1, .slice s.A2 m.imports.length s.c2, .int .i64 m.data, .slice s.A3 m.init.length s.c3] 41))
  have HI := Lib.hid hI
  clear hI
  unfold modV
  by_cases h1 : 255 < m.imports.length
  · go_enter Try.func41, Try.ntmps41
    go_wp2_with fail
    go_ret
    exact boolEnd_false (modOkB_long h1) HW.out
  have H1 := Lib.hid h1
  go_enter Try.func41, Try.ntmps41
  go_wp2_with fail
  go_loopg [14] (m.imports.length) (fun g i wr => ∃ k : Nat, k + g = m.imports.length ∧ i = .int .i64 k ∧ (m.imports.take k).all (withinB · 0 63) = true ∧ wr = w.alloc (.cells #[.string ⟨m.code.toArray⟩, .slice s.A1 m.procs.length s.c1, .slice s.A2 m.imports.length s.c2, .int .i64 m.data, .slice s.A3 m.init.length s.c3] 41))
  case atStart => exact ⟨0, by omega, rfl, rfl, rfl⟩
  case round =>
    obtain ⟨k, hk, rfl, hall, rfl⟩ := hrel
    have HA := Lib.hid hall
    clear hall
    by_cases hlt : k < m.imports.length
    · obtain ⟨b, off, hA2, hbl, c0⟩ := Each.at_ HI.out.imports hlt
      have HS := Lib.hid (all_take_succ (withinB · 0 63) m.imports k 0 hlt)
      have HF := Lib.hid (all_false_at (withinB · 0 63) m.imports k 0 hlt)
      generalize m.imports.getD k 0 = x at *
      obtain ⟨A1, cc1, A2, cc2, A3, cc3⟩ := s
      simp only at hA2 ⊢
      subst hA2
      have hkI : (k : Int) < (m.imports.length : Int) := by omega
      rw [Nat.mul_one] at c0
      by_cases hx0 : x < 0
      · have hq := Lib.hid (show withinB x 0 63 = false by simp [withinB]; omega)
        go_wp2_with fail
        go_ret
        exact boolEnd_false (modOkB_imp (HF.out hq.out)) HW.out
      by_cases hx1 : 64 ≤ x
      · have hq := Lib.hid (show withinB x 0 63 = false by simp [withinB]; omega)
        go_wp2_with fail
        go_ret
        exact boolEnd_false (modOkB_imp (HF.out hq.out)) HW.out
      have hq := Lib.hid (show withinB x 0 63 = true by simp [withinB]; omega)
      go_wp2_with fail
      go_roundg (gk - 1)
      case measure => omega
      case rel => exact ⟨k + 1, by omega, by go_num, by rw [HS.out, HA.out, hq.out]; rfl, rfl⟩
    · obtain rfl : k = m.imports.length := by omega
      have HA1 := Lib.hid (show m.imports.all (withinB · 0 63) = true by have := HA.out; rwa [List.take_length] at this)
      have HR := Lib.hid (modOkB_rest H1.out HA1.out)
      clear HA
      have HAl := Lib.hid (alloc_below w (.cells #[.string ⟨m.code.toArray⟩, .slice s.A1 m.procs.length s.c1, .slice none 0 0, .int .i64 m.data, .slice s.A3 m.init.length s.c3] 41))
      go_wp2_with fail
      refine (check_any (some ⟨w.heap.size + 1, 0, none⟩) none 1 0 [noImp m] [] (by simp) (by simp) _ (by simpa using mods_one _ s m (HI.out.later HAl.out (Nat.le_refl _)) 41) (.inl rfl)).mono ?_
      rintro e w5 ⟨k5, rfl, hb5⟩
      have hb6 := HAl.out.trans ((box_below hb5).1.mono (by simp))
      clear hb5
      cases hq : checkB [noImp m] []
      · rw [show errMod false = 200 from rfl]
        go_wp2_with fail
        go_ret
        exact boolEnd_of (by rw [HR.out, hq]) hb6
      · rw [show errMod true = 0 from rfl]
        go_wp2_with fail
        go_ret
        exact boolEnd_of (by rw [HR.out, hq]) hb6
set_option maxHeartbeats 1000000 in
theorem refMayModule_any (s : MS) (m : ModL) (w : World) (hI : ModIn w s m) : Calls Try.prog 47 #[modV s m] w (BoolEnd w (modOkB m)) := by
  have hil := hI.imports_le
  have hpl := hI.procs_le
  have hnl := hI.init_le
  have hcl := hI.code_le
  have HW := Lib.hid (alloc_below w (.cells #[.string ⟨m.code.toArray⟩, .slice s.A1 m.procs.length s.c1, .slice s.A2 m.imports.length s.c2, .int .i64 m.data, .slice s.A3 m.init.length s.c3] 41))
  have HI := Lib.hid hI
  clear hI
  unfold modV
  by_cases h1 : 255 < m.imports.length
  · go_enter Try.func47, Try.ntmps47
    go_wp2_with fail
    go_ret
    exact boolEnd_false (modOkB_long h1) HW.out
  have H1 := Lib.hid h1
  go_enter Try.func47, Try.ntmps47
  go_wp2_with fail
  go_loopg [3] (m.imports.length) (fun g i wr => ∃ k : Nat, k + g = m.imports.length ∧ i = .int .i64 k ∧ (m.imports.take k).all (withinB · 0 63) = true ∧ wr = w.alloc (.cells #[.string ⟨m.code.toArray⟩, .slice s.A1 m.procs.length s.c1, .slice s.A2 m.imports.length s.c2, .int .i64 m.data, .slice s.A3 m.init.length s.c3] 41))
  case atStart => exact ⟨0, by omega, rfl, rfl, rfl⟩
  case round =>
    obtain ⟨k, hk, rfl, hall, rfl⟩ := hrel
    have HA := Lib.hid hall
    clear hall
    by_cases hlt : k < m.imports.length
    · obtain ⟨b, off, hA2, hbl, c0⟩ := Each.at_ HI.out.imports hlt
      have HS := Lib.hid (all_take_succ (withinB · 0 63) m.imports k 0 hlt)
      have HF := Lib.hid (all_false_at (withinB · 0 63) m.imports k 0 hlt)
      generalize m.imports.getD k 0 = x at *
      obtain ⟨A1, cc1, A2, cc2, A3, cc3⟩ := s
      simp only at hA2 ⊢
      subst hA2
      have hkI : (k : Int) < (m.imports.length : Int) := by omega
      rw [Nat.mul_one] at c0
      by_cases hx0 : x < 0
      · have hq := Lib.hid (show withinB x 0 63 = false by simp [withinB]; omega)
        go_wp2_with fail
        go_ret
        exact boolEnd_false (modOkB_imp (HF.out hq.out)) HW.out
      by_cases hx1 : 63 < x
      · have hq := Lib.hid (show withinB x 0 63 = false by simp [withinB]; omega)
        go_wp2_with fail
        go_ret
        exact boolEnd_false (modOkB_imp (HF.out hq.out)) HW.out
      have hq := Lib.hid (show withinB x 0 63 = true by simp [withinB]; omega)
      go_wp2_with fail
      go_roundg (gk - 1)
      case measure => omega
      case rel => exact ⟨k + 1, by omega, by go_num, by rw [HS.out, HA.out, hq.out]; rfl, rfl⟩
    · obtain rfl : k = m.imports.length := by omega
      have HA1 := Lib.hid (show m.imports.all (withinB · 0 63) = true by have := HA.out; rwa [List.take_length] at this)
      have HR := Lib.hid (modOkB_rest H1.out HA1.out)
      clear HA
      have HAl := Lib.hid (((Below.refl w.heap.size w).alloc (Nat.le_refl _) (.cells #[.string ⟨m.code.toArray⟩, .slice s.A1 m.procs.length s.c1, .slice s.A2 m.imports.length s.c2, .int .i64 m.data, .slice s.A3 m.init.length s.c3] 41)).alloc (by simp) (.cells #[.string ⟨m.code.toArray⟩, .slice s.A1 m.procs.length s.c1, .slice none 0 0, .int .i64 m.data, .slice s.A3 m.init.length s.c3] 41))
      go_wp2_with fail
      refine (refCheck_any (some ⟨w.heap.size + 2, 0, none⟩) none 1 0 [noImp m] [] (by simp) (by simp) _ (by simpa using mods_one _ s m (HI.out.later HAl.out (Nat.le_refl _)) 41) (.inl rfl)).mono ?_
      rintro e w5 ⟨k5, rfl, hb5⟩
      have hb6 := HAl.out.trans ((box_below hb5).1.mono (by simp; omega))
      clear hb5
      cases hq : checkB [noImp m] []
      · rw [show errMod false = 200 from rfl]
        go_wp2_with fail
        go_ret
        exact boolEnd_of (by rw [HR.out, hq]) hb6
      · rw [show errMod true = 0 from rfl]
        go_wp2_with fail
        go_ret
        exact boolEnd_of (by rw [HR.out, hq]) hb6
end Go.Proofs.Ytckbfocbainlpaa
