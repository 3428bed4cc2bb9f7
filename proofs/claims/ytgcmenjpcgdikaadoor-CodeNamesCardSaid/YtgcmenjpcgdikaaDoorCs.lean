/- separatumlaw16.CodeNames: true for every two ops. -/
import Derived.Test.YtgcmenjpcgdikaaDoorCr
namespace Go.Proofs.YtgcmenjpcgdikaaDoor
open Go.RowKit
set_option maxRecDepth 100000

set_option maxHeartbeats 1000000 in
theorem codeNames_any (a b : Nat) (ha : a < 256) (hb : b < 256) (w : World) (ht : Tab w) :
    Calls Tryd.prog 5 #[.int .u8 a, .int .u8 b] w fun e w' => e = .returned (.bool true) ∧ Below w.heap.size w w' := by
  have ea := name_there a ha
  have eb := name_there b hb
  by_cases hab : a = b
  · subst hab
    have HT := Lib.hid ht
    clear eb hb
    cases hta : thereB a
    all_goals
      rw [hta] at ea
      simp only [Bool.not_true, Bool.not_false] at ea
      go_enter Tryd.func5, Tryd.ntmps5
      go_wp2_with fail
      refine (form_any a ha _ ht).mono ?_
      rintro e w1 ⟨rfl, hb1⟩
      have ht1 := ht.later hb1
      go_wp2_with fail
      refine (form_any a ha _ ht1).mono ?_
      rintro e w2 ⟨rfl, hb2⟩
      have ht2 := ht1.later hb2
      go_wp2_with fail
      refine (name_any a ha _ ht2).mono ?_
      rintro e w3 ⟨rfl, hb3⟩
      have ht3 := ht2.later hb3
      go_wp2_with fail
      refine (name_any a ha _ ht3).mono ?_
      rintro e w4 ⟨rfl, hb4⟩
      have ht4 := ht3.later hb4
      go_wp2_with fail
      refine (alive_any _ ht4).mono ?_
      rintro e w5 ⟨rfl, hb5⟩
      go_wp2_with fail
      go_ret
      refine ⟨rfl, ?_⟩
      have h2 := hb1.trans (hb2.mono hb1.size)
      have h3 := h2.trans (hb3.mono h2.size)
      have h4 := h3.trans (hb4.mono h3.size)
      exact h4.trans (hb5.mono h4.size)
  · have hne : ((a : Int) == (b : Int)) = false := by simp; omega
    have hnn : thereB a = true → thereB b = true → nameL a ≠ nameL b := fun h1 h2 h3 => hab (names_apart a ha b hb h1 h2 h3)
    cases hta : thereB a <;> cases htb : thereB b
    all_goals
      rw [hta] at ea
      rw [htb] at eb
      simp only [Bool.not_true, Bool.not_false] at ea eb
      have hnb : thereB a = true → thereB b = true → (nameL a == nameL b) = false := fun h1 h2 => by simpa using hnn h1 h2
      rw [hta, htb] at hnb
      simp only [forall_const, reduceCtorEq, false_implies, implies_true] at hnb
      clear hab hnn
      go_enter Tryd.func5, Tryd.ntmps5
      go_wp2_with fail
      refine (form_any a ha _ ht).mono ?_
      rintro e w1 ⟨rfl, hb1⟩
      have ht1 := ht.later hb1
      go_wp2_with fail
      refine (form_any b hb _ ht1).mono ?_
      rintro e w2 ⟨rfl, hb2⟩
      have ht2 := ht1.later hb2
      go_wp2_with fail
      refine (name_any a ha _ ht2).mono ?_
      rintro e w3 ⟨rfl, hb3⟩
      have ht3 := ht2.later hb3
      go_wp2_with fail
      refine (name_any b hb _ ht3).mono ?_
      rintro e w4 ⟨rfl, hb4⟩
      have ht4 := ht3.later hb4
      go_wp2_with fail
      refine (alive_any _ ht4).mono ?_
      rintro e w5 ⟨rfl, hb5⟩
      go_wp2_with fail
      go_ret
      refine ⟨rfl, ?_⟩
      have h2 := hb1.trans (hb2.mono hb1.size)
      have h3 := h2.trans (hb3.mono h2.size)
      have h4 := h3.trans (hb4.mono h3.size)
      exact h4.trans (hb5.mono h4.size)
end Go.Proofs.YtgcmenjpcgdikaaDoor
