/- The document's one: an instruction's bytes, in new memory. Conditions: what lies in memory can lie there. -/
import Derived.Test.YtgcmenjpcgdikaaDoorRb
namespace Go.Proofs.YtgcmenjpcgdikaaDoor
open Go.RowKit
set_option maxRecDepth 100000

theorem quiet_same {P : Program} {f : FuncId} {args : Array Value} {w : World} {x : Gr} {v : Value}
    (h : Calls P f args (growN w x) fun e w' => e = .returned v ∧ growN w x = w') : Calls P f args (growN w x) fun e w'' => e = .returned v ∧ ∃ y, w'' = growN w y :=
  h.mono fun _ _ ⟨he, hb⟩ => ⟨he, x, hb.symm⟩

/-- How the document's one ends. -/
def RefEnd (w : World) (r : List UInt8 × Int) (e : Ending) (w' : World) : Prop :=
  ∃ v, e = .returned (.tuple #[v, .int .i64 r.2]) ∧ w'.ownsRow w.heap.size 5 1 v r.1.length (byteVals r.1).toList ∧ Below w.heap.size w w'
theorem RefEnd.none (w w' : World) (k : Int) (h : Below w.heap.size w w') : RefEnd w ([], k) (.returned (.tuple #[.slice none 0 0, .int .i64 k])) w' :=
  ⟨_, rfl, World.ownsRow_nil .., h⟩

set_option maxHeartbeats 400000 in
theorem refOne_none (n : Nat) (hn : n < 256) (hT : thereB n = false) (A : Option Addr) (args : List Int) (cap : Nat) (w : World) :
    Calls Tryd.prog 37 #[.agg #[.int .u8 n, .slice A args.length cap]] w (RefEnd w (oneL n args)) := by
  have HO := Lib.hid (show oneL n args = ([], 160) by unfold oneL; simp [hT])
  go_enter Tryd.func37, Tryd.ntmps37
  go_wp2_with fail
  refine (refThere n _).mono ?_
  rintro e w' ⟨rfl, rfl⟩
  rw [hT]
  go_wp2_with fail
  go_ret2
  rw [HO.out]
  exact RefEnd.none _ _ _ ((Below.refl _ _).alloc (Nat.le_refl _) _)

set_option maxHeartbeats 800000 in
theorem refOne_few (n : Nat) (hn : n < 256) (hT : thereB n = true) (A : Option Addr) (args : List Int) (cap : Nat) (hl : args.length ≤ 17592186044416) (hR : rowsOk n args.length = false) (w : World) :
    Calls Tryd.prog 37 #[.agg #[.int .u8 n, .slice A args.length cap]] w (RefEnd w (oneL n args)) := by
  have HO := Lib.hid (show oneL n args = ([], 2) by unfold oneL; simp [hT, hR])
  have hf := form_short n
  have HC : args.length < (formL n).length ∨ ((formL n).length < args.length ∧ (n ≠ 60 ∨ (args.length - (formL n).length) % 3 ≠ 0)) := by
    unfold rowsOk at hR
    by_cases h : n = 60
    · subst h
      have h2 : (formL 60).length = 2 := rfl
      simp at hR
      omega
    · rw [if_neg h] at hR
      simp at hR
      omega
  by_cases h1 : args.length < (formL n).length
  · have g1 : decide ((args.length : Int) - ((formL n).length : Int) < 0) = true := by simp; omega
    clear HC h1
    go_enter Tryd.func37, Tryd.ntmps37
    go_wp2_with fail
    refine (refThere n _).mono ?_
    rintro e w' ⟨rfl, rfl⟩
    rw [hT]
    go_wp2_with fail
    refine (refForm n hn _).mono ?_
    rintro e w' ⟨rfl, rfl⟩
    go_wp2_with fail
    go_ret2
    rw [HO.out]
    exact RefEnd.none _ _ _ ((Below.refl _ _).alloc (Nat.le_refl _) _)
  · have g1 : decide ((args.length : Int) - ((formL n).length : Int) < 0) = false := by simp; omega
    have g2 : decide (0 < (args.length : Int) - ((formL n).length : Int)) = true := by simp; omega
    have g2' : (formL n).length < args.length := by omega
    by_cases h6 : n = 60
    · have g3 : ((n : Int) != 60) = false := by simp [h6]
      have g4 : (((args.length : Int) - ((formL n).length : Int)) % 3 != 0) = true := by
        have : (args.length - (formL n).length) % 3 ≠ 0 := by omega
        simp; omega
      clear HC h1 h6
      go_enter Tryd.func37, Tryd.ntmps37
      go_wp2_with fail
      refine (refThere n _).mono ?_
      rintro e w' ⟨rfl, rfl⟩
      rw [hT]
      go_wp2_with fail
      refine (refForm n hn _).mono ?_
      rintro e w' ⟨rfl, rfl⟩
      go_wp2_with fail
      go_ret2
      rw [HO.out]
      exact RefEnd.none _ _ _ ((Below.refl _ _).alloc (Nat.le_refl _) _)
    · have g3 : ((n : Int) != 60) = true := by simp; omega
      clear HC h1 h6
      go_enter Tryd.func37, Tryd.ntmps37
      go_wp2_with fail
      refine (refThere n _).mono ?_
      rintro e w' ⟨rfl, rfl⟩
      rw [hT]
      go_wp2_with fail
      refine (refForm n hn _).mono ?_
      rintro e w' ⟨rfl, rfl⟩
      go_wp2_with fail
      go_ret2
      rw [HO.out]
      exact RefEnd.none _ _ _ ((Below.refl _ _).alloc (Nat.le_refl _) _)
end Go.Proofs.YtgcmenjpcgdikaaDoor
