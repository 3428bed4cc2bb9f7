/-
  No cell of these rows narrows 'for every input' (looked for: loops, veiled, ifaces, maps, wideKeys, modest, calm, conditions, laid).
  DERIVED. THE GIVEN ROWS OF THIS SEAT. 3 by the template 'for every input the law returns true; each argument reads behind the call as it read before'; 0 by the template 'total and deterministic' (their statements: YtlpombjidhloiaaGreatTotals.lean).
  GIVEN WITH THE SEED: the statements are not yours to turn. If you find one false, say at which input.
  Laid BY PROGRAM, IN A SANDBOX (cutbox-rows.mjs): the forced cells as the released guide's own fill.sh prints them over the translation 34a1fc1d2a10334c… (all of the seat's roots in one cut). By AI agents, Wed Nov 11 2026. No macro, syntax, notation, axiom, sorry.
-/
import Derived.Test.YtlpombjidhloiaaGreatChecked
import GoSem.Claim
import GoSem.ClaimJoined
import GoSem.ClaimMapViews
import Derived.JoinedTies
import Derived.KernelRfl
namespace Go.Proofs.YtlpombjidhloiaaGreat
/- THE CELL 'sum', in the pinned program and in every row, IS THE sha256 OF THE DUMP (.gsa) THAT YtlpombjidhloiaaGreatProg.lean LOADS. Nothing in Lean hashes anything: it is a label: what it is worth is what the hold of that sum in a sandbox is worth. -/
noncomputable def Tryz.pinned : Pinned := { name := "ytlpombjidhloiaagreat", sum := "34a1fc1d2a10334c3c5ffba7d39b34d0fdb3692a0b4bccda378f0a39e2aa1971", checked := Tryz.checked }
namespace Rows
def none {H : Type} : Left H := { results := [], args := [] }

/-- 'separatumlaw25.JudgeValues': WHATEVER THE INPUT: true; the input reads as it did. -/
def judgeValuesSpec : ChangeSpec := { name := "judgeValues", fn := fun _ => fun
  | [d] => { results := [.lit (.bool true)], args := [d] }
  | _ => none }
def judgeValuesRow : OpenClaim := { program := "ytlpombjidhloiaagreat", sum := "34a1fc1d2a10334c3c5ffba7d39b34d0fdb3692a0b4bccda378f0a39e2aa1971", func := "separatum/separatumlaw25.JudgeValues", spec := "judgeValues", inPlace := ["internal/bytealg.IndexByteString", "internal/bytealg.IndexString"], unfollowed := true, recurses := true, named := ["internal/bytealg.MaxLen"], plainKeys := false, apart := false }
def JudgeValuesSaid : Prop := judgeValuesRow.holds Tryz.pinned (OpenSpec.ofChange judgeValuesSpec)

/-- ITS FALSE NEIGHBOUR: 'it returns false'. Refute it at one input. -/
def judgeValuesWrong : ChangeSpec := { name := "judgeValues", fn := fun _ => fun
  | [d] => { results := [.lit (.bool false)], args := [d] }
  | _ => none }
def JudgeValuesWrongFalsely : Prop := judgeValuesRow.holds Tryz.pinned (OpenSpec.ofChange judgeValuesWrong)

/-- 'separatumlaw25.JudgeParts': WHATEVER THE INPUT: true; the input reads as it did. -/
def judgePartsSpec : ChangeSpec := { name := "judgeParts", fn := fun _ => fun
  | [d1, d2, d3] => { results := [.lit (.bool true)], args := [d1, d2, d3] }
  | _ => none }
def judgePartsRow : OpenClaim := { program := "ytlpombjidhloiaagreat", sum := "34a1fc1d2a10334c3c5ffba7d39b34d0fdb3692a0b4bccda378f0a39e2aa1971", func := "separatum/separatumlaw25.JudgeParts", spec := "judgeParts", inPlace := ["internal/bytealg.IndexByteString", "internal/bytealg.IndexString"], unfollowed := true, recurses := true, named := ["internal/bytealg.MaxLen"], plainKeys := false, apart := false }
def JudgePartsSaid : Prop := judgePartsRow.holds Tryz.pinned (OpenSpec.ofChange judgePartsSpec)

/-- ITS FALSE NEIGHBOUR: 'it returns false'. Refute it at one input. -/
def judgePartsWrong : ChangeSpec := { name := "judgeParts", fn := fun _ => fun
  | [d1, d2, d3] => { results := [.lit (.bool false)], args := [d1, d2, d3] }
  | _ => none }
def JudgePartsWrongFalsely : Prop := judgePartsRow.holds Tryz.pinned (OpenSpec.ofChange judgePartsWrong)

/-- 'separatumlaw25.JudgeSides': WHATEVER THE INPUT: true; the input reads as it did. -/
def judgeSidesSpec : ChangeSpec := { name := "judgeSides", fn := fun _ => fun
  | [d1, d2, d3] => { results := [.lit (.bool true)], args := [d1, d2, d3] }
  | _ => none }
def judgeSidesRow : OpenClaim := { program := "ytlpombjidhloiaagreat", sum := "34a1fc1d2a10334c3c5ffba7d39b34d0fdb3692a0b4bccda378f0a39e2aa1971", func := "separatum/separatumlaw25.JudgeSides", spec := "judgeSides", inPlace := ["internal/bytealg.IndexByteString", "internal/bytealg.IndexString"], unfollowed := true, recurses := true, named := ["internal/bytealg.MaxLen"], plainKeys := false, apart := false }
def JudgeSidesSaid : Prop := judgeSidesRow.holds Tryz.pinned (OpenSpec.ofChange judgeSidesSpec)

/-- ITS FALSE NEIGHBOUR: 'it returns false'. Refute it at one input. -/
def judgeSidesWrong : ChangeSpec := { name := "judgeSides", fn := fun _ => fun
  | [d1, d2, d3] => { results := [.lit (.bool false)], args := [d1, d2, d3] }
  | _ => none }
def JudgeSidesWrongFalsely : Prop := judgeSidesRow.holds Tryz.pinned (OpenSpec.ofChange judgeSidesWrong)

/- THE SECOND FORM. 'bulk': how many values and letters a reading holds, each counted each time it is reached (what is shared counts as often as it is met; a slice's spare places count too). A statement '..UptoSaid' is the law's where the arguments, and the package variables that the reading takes, are together of bulk at most 1048576: NARROWER than '..Said'. Prove '..Said' where nothing that the law and all that it calls make is longer than what came in: it says more and counts as full. Else prove '..UptoSaid'. A law counts once. -/
mutual
def uptoBulk {H : Type} : DataW H → Nat
  | .lit (.string bytes) => bytes.length + 1
  | .lit _ => 1
  | .nil => 1
  | .ptr d => uptoBulk d + 1
  | .slice elems spare => uptoBulkAll elems + uptoBulkAll spare + 1
  | .agg parts => uptoBulkAll parts + 1
  | .iface _ d => uptoBulk d + 1
  | .map entries => uptoBulkEntries entries + 1
  | .held _ => 1
def uptoBulkAll {H : Type} : List (DataW H) → Nat
  | [] => 0
  | d :: r => uptoBulk d + uptoBulkAll r
def uptoBulkEntries {H : Type} : List (Lit × DataW H) → Nat
  | [] => 0
  | x :: r => uptoBulkEntry x + uptoBulkEntries r
def uptoBulkEntry {H : Type} : Lit × DataW H → Nat
  | (.string bytes, d) => bytes.length + uptoBulk d + 1
  | (_, d) => uptoBulk d + 1
 end
def uptoSmall : (H : Type) → List (DataW H) → Bool := fun _ ds => decide (uptoBulkAll ds ≤ 1048576)
def OpenSpec.upto (s : _root_.Go.ChangeSpec) : _root_.Go.OpenSpec := { _root_.Go.OpenSpec.ofChange s with cond := some uptoSmall }

/-- 'separatumlaw25.JudgeValues', WHERE WHAT IT READS IS OF BULK AT MOST 1048576: true; the input reads as it did. -/
def judgeValuesUptoRow : OpenClaim := { program := "ytlpombjidhloiaagreat", sum := "34a1fc1d2a10334c3c5ffba7d39b34d0fdb3692a0b4bccda378f0a39e2aa1971", func := "separatum/separatumlaw25.JudgeValues", spec := "judgeValues", inPlace := ["internal/bytealg.IndexByteString", "internal/bytealg.IndexString"], unfollowed := true, recurses := true, named := ["internal/bytealg.MaxLen"], plainKeys := false, apart := false, narrowed := true }
def JudgeValuesUptoSaid : Prop := judgeValuesUptoRow.holds Tryz.pinned (OpenSpec.upto judgeValuesSpec)

/-- 'separatumlaw25.JudgeParts', WHERE WHAT IT READS IS OF BULK AT MOST 1048576: true; the input reads as it did. -/
def judgePartsUptoRow : OpenClaim := { program := "ytlpombjidhloiaagreat", sum := "34a1fc1d2a10334c3c5ffba7d39b34d0fdb3692a0b4bccda378f0a39e2aa1971", func := "separatum/separatumlaw25.JudgeParts", spec := "judgeParts", inPlace := ["internal/bytealg.IndexByteString", "internal/bytealg.IndexString"], unfollowed := true, recurses := true, named := ["internal/bytealg.MaxLen"], plainKeys := false, apart := false, narrowed := true }
def JudgePartsUptoSaid : Prop := judgePartsUptoRow.holds Tryz.pinned (OpenSpec.upto judgePartsSpec)

/-- 'separatumlaw25.JudgeSides', WHERE WHAT IT READS IS OF BULK AT MOST 1048576: true; the input reads as it did. -/
def judgeSidesUptoRow : OpenClaim := { program := "ytlpombjidhloiaagreat", sum := "34a1fc1d2a10334c3c5ffba7d39b34d0fdb3692a0b4bccda378f0a39e2aa1971", func := "separatum/separatumlaw25.JudgeSides", spec := "judgeSides", inPlace := ["internal/bytealg.IndexByteString", "internal/bytealg.IndexString"], unfollowed := true, recurses := true, named := ["internal/bytealg.MaxLen"], plainKeys := false, apart := false, narrowed := true }
def JudgeSidesUptoSaid : Prop := judgeSidesUptoRow.holds Tryz.pinned (OpenSpec.upto judgeSidesSpec)

end Rows
end Go.Proofs.YtlpombjidhloiaaGreat
