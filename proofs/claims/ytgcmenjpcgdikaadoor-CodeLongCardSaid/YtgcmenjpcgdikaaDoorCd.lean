/- The walks of code.Form, code.rows. Condition: the table strings.asciiSpace holds what its initialiser lays (Tab). -/
import Derived.Test.YtgcmenjpcgdikaaDoorCc
import Derived.Test.YtgcmenjpcgdikaaDoorPl
namespace Go.Proofs.YtgcmenjpcgdikaaDoor
open Go.RowKit
set_option maxRecDepth 100000


set_option maxHeartbeats 400000 in
theorem rows_not (n : Nat) (hn : n < 256) (hc : n ≠ 60) (A : Option Addr) (len cap : Nat) (hl : len ≤ 9223372036854775807) (w : World) (ht : Tab w) :
    Calls Tryd.prog 40 #[.agg #[.int .u8 n, .slice A len cap]] w fun e w' => e = .returned (.tuple #[.int .i64 0, .bool (len == (formL n).length)]) ∧ Below w.heap.size w w' := by
  go_enter Tryd.func40, Tryd.ntmps40
  go_wp2_with fail
  refine (form_any n hn _ (ht.alloc _)).mono ?_
  rintro e w' ⟨rfl, hb⟩
  obtain ⟨c0, c1, hb, hs⟩ := box2 hb
  have hf : (formL n).length ≤ 4 := form_short n
  have hc' : ((n : Int) != 60) = true := by simp; omega
  go_wp2_with fail
  go_ret2
  exact ⟨ret2 rfl (vbool (by rw [Bool.eq_iff_iff]; simp; omega)), hb⟩



set_option maxHeartbeats 400000 in
theorem rows_case (A : Option Addr) (len cap : Nat) (hl : len ≤ 9223372036854775807) (w : World) (ht : Tab w) :
    Calls Tryd.prog 40 #[.agg #[.int .u8 60, .slice A len cap]] w fun e w' => e = .returned (.tuple #[.int .i64 ((len - 2) / 3 : Nat), .bool (decide (2 ≤ len ∧ (len - 2) % 3 = 0))]) ∧ Below w.heap.size w w' := by
  by_cases h2 : 2 ≤ len
  all_goals
    go_enter Tryd.func40, Tryd.ntmps40
    go_wp2_with fail
    refine (form_any 60 (by omega) _ (ht.alloc _)).mono ?_
    rintro e w' ⟨rfl, hb⟩
    obtain ⟨c0, c1, hb, hs⟩ := box2 hb
    rw [form60]
    go_wp2_with fail
  · go_ret2
    exact ⟨ret2 (vint (by simp; omega)) (vbool (by rw [Bool.eq_iff_iff]; simp; try omega)), hb⟩
  · go_ret2
    have h01 : len = 0 ∨ len = 1 := by omega
    refine ⟨ret2 (vint ?_) rfl, hb⟩
    rcases h01 with rfl | rfl <;> rfl
end Go.Proofs.YtgcmenjpcgdikaaDoor
