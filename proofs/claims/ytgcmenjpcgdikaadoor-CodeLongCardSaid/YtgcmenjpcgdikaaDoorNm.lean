/- The names of the instructions, as lists of bytes; the forms; plain Lean, no program. -/
import Derived.WalkKit
namespace Go.Proofs.YtgcmenjpcgdikaaDoor
def opsNames : List (List UInt8) := [[105, 97, 100, 100], [105, 115, 117, 98], [105, 109, 117, 108], [105, 100, 105, 118], [105, 109, 111, 100], [105, 110, 101, 103], [105, 97, 98, 115], [99, 97, 100, 100], [99, 115, 117, 98], [99, 109, 117, 108], [99, 100, 105, 118], [99, 109, 111, 100], [101, 113], [110, 101], [105, 108, 116], [105, 108, 101], [105, 103, 116], [105, 103, 101], [99, 108, 116], [99, 108, 101], [99, 103, 116], [99, 103, 101], [110, 111, 116], [111, 114], [97, 110, 100, 110], [97, 110, 100], [120, 111, 114], [105, 110], [115, 117, 98], [111, 110, 101], [114, 111, 119]]
def insNames : List (List UInt8) := [[108, 105, 116], [108, 103], [115, 103], [97, 103], [108, 108], [115, 108], [97, 108], [108, 105], [115, 105], [97, 100, 100], [112, 116, 114], [105, 120], [105, 120, 111, 112], [114, 97, 110, 103, 101], [99, 111, 110, 118], [106, 109, 112], [106, 122], [106, 110, 122], [106, 122, 107], [106, 110, 107], [99, 97, 115, 101], [109, 97, 114, 107], [99, 97, 108, 108], [99, 97, 108, 108, 120], [99, 97, 108, 108, 102], [114, 101, 116], [114, 101, 116, 102], [112, 114, 111, 99], [100, 117, 112], [100, 114, 111, 112], [115, 119, 97, 112], [109, 111, 118, 101], [110, 101, 119], [102, 114, 101, 101], [114, 101, 97, 100], [119, 114, 105, 116, 101], [119, 114, 115], [119, 114, 105], [119, 114, 99], [119, 114, 108, 110], [116, 114, 97, 112], [100, 117, 112, 120]]
/-- The name of the op number n; of no op: none. -/
def nameL (n : Nat) : List UInt8 := if 1 ≤ n ∧ n ≤ 31 then opsNames.getD (n - 1) [] else if 40 ≤ n ∧ n ≤ 81 then insNames.getD (n - 40) [] else []
/-- Is there an op of that number? -/
def thereB (n : Nat) : Bool := (1 ≤ n && n ≤ 31) || (40 ≤ n && n ≤ 81)
def wOps : List Nat := [40, 47, 48, 49, 52, 71, 72]
def bwOps : List Nat := [41, 42, 43, 44, 45, 46, 62, 63, 67]
def jOps : List Nat := [55, 56, 57, 58, 59]
/-- The form of an op: the letters B W J. -/
def formL (n : Nat) : List UInt8 :=
  if n ∈ wOps then [87] else if n ∈ bwOps then [66, 87] else if n = 51 then [66, 87, 87, 87] else if n = 53 then [66, 87, 87]
  else if n ∈ jOps then [74] else if n = 64 ∨ n = 80 then [66] else if n = 60 then [66, 74] else []
theorem name_there : ∀ n, n < 256 → ((nameL n).isEmpty = !thereB n) := by decide +kernel
theorem form_there : ∀ n, n < 256 → formL n ≠ [] → thereB n = true := by decide +kernel
def firstAt (x : List UInt8) : Nat := ((List.range 256).find? fun k => nameL k == x).getD 0
theorem first_name : ∀ n, n < 256 → thereB n = true → firstAt (nameL n) = n := by decide +kernel
theorem names_apart (a : Nat) (ha : a < 256) (b : Nat) (hb : b < 256) (h : thereB a = true) (k : thereB b = true) (e : nameL a = nameL b) : a = b := by
  rw [← first_name a ha h, e, first_name b hb k]
theorem form_short (n : Nat) : (formL n).length ≤ 4 := by
  unfold formL
  repeat' split
  all_goals simp
end Go.Proofs.YtgcmenjpcgdikaaDoor
