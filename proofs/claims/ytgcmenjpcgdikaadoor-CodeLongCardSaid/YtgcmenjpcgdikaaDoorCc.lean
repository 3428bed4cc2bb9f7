/- The walks of code.Form, code.rows. Condition: the table strings.asciiSpace holds what its initialiser lays (Tab). -/
import Derived.Test.YtgcmenjpcgdikaaDoorCb
namespace Go.Proofs.YtgcmenjpcgdikaaDoor
open Go.RowKit
set_option maxRecDepth 100000

theorem empty_beq (n : Nat) (h : n < 256) : (!(nameL n).isEmpty) = thereB n := by rw [name_there n h]; simp

theorem formL_nil (n : Nat) (h40 : ((n : Int) == 40) = false) (h47 : ((n : Int) == 47) = false) (h48 : ((n : Int) == 48) = false) (h49 : ((n : Int) == 49) = false) (h52 : ((n : Int) == 52) = false) (h71 : ((n : Int) == 71) = false) (h72 : ((n : Int) == 72) = false) (h41 : ((n : Int) == 41) = false) (h42 : ((n : Int) == 42) = false) (h43 : ((n : Int) == 43) = false) (h44 : ((n : Int) == 44) = false) (h45 : ((n : Int) == 45) = false) (h46 : ((n : Int) == 46) = false) (h62 : ((n : Int) == 62) = false) (h63 : ((n : Int) == 63) = false) (h67 : ((n : Int) == 67) = false) (h51 : ((n : Int) == 51) = false) (h53 : ((n : Int) == 53) = false) (h55 : ((n : Int) == 55) = false) (h56 : ((n : Int) == 56) = false) (h57 : ((n : Int) == 57) = false) (h58 : ((n : Int) == 58) = false) (h59 : ((n : Int) == 59) = false) (h64 : ((n : Int) == 64) = false) (h80 : ((n : Int) == 80) = false) (h60 : ((n : Int) == 60) = false) : formL n = [] := by
  simp only [beq_eq_false_iff_ne, ne_eq] at h40 h47 h48 h49 h52 h71 h72 h41 h42 h43 h44 h45 h46 h62 h63 h67 h51 h53 h55 h56 h57 h58 h59 h64 h80 h60
  unfold formL wOps bwOps jOps
  simp only [List.mem_cons, List.not_mem_nil, or_false]
  repeat rw [if_neg (by omega)]

set_option maxHeartbeats 1000000 in
theorem form_any (n : Nat) (hn : n < 256) (w : World) (ht : Tab w) :
    Calls Tryd.prog 19 #[.int .u8 n] w fun e w' => e = .returned (.tuple #[.string ⟨(formL n).toArray⟩, .bool (thereB n)]) ∧ Below w.heap.size w w' := by
  go_enter Tryd.func19, Tryd.ntmps19
  go_wp2_with fail
  all_goals first
    | (rename_i h
       have h' := congrArg Int.toNat (eq_of_beq h)
       simp only [Int.toNat_natCast, Int.reduceToNat] at h'
       subst h'
       go_ret2
       exact ⟨rfl, Below.refl _ _⟩)
    | skip
  have hL := Lib.hid (formL_nil n (by assumption) (by assumption) (by assumption) (by assumption) (by assumption) (by assumption) (by assumption) (by assumption) (by assumption) (by assumption) (by assumption) (by assumption) (by assumption) (by assumption) (by assumption) (by assumption) (by assumption) (by assumption) (by assumption) (by assumption) (by assumption) (by assumption) (by assumption) (by assumption) (by assumption) (by assumption))
  refine (name_any n hn _ ht).mono ?_
  rintro e w' ⟨rfl, hb⟩
  have hT := Lib.hid (empty_beq n hn)
  go_wp2_with fail
  go_ret2
  exact ⟨by rw [hL.out, ← hT.out]; simp, hb⟩
end Go.Proofs.YtgcmenjpcgdikaaDoor
