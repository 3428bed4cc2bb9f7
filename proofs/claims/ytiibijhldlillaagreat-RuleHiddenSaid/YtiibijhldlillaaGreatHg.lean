/- The engine's tables at this program, with all hooks. No condition. -/
import Derived.Test.YtiibijhldlillaaGreatHa
import Derived.Test.YtiibijhldlillaaGreatHf
import Derived.Test.YtiibijhldlillaaGreatHb
namespace Go.Proofs.Tryz
open Go.Proofs.YtiibijhldlillaaGreat.Eng
/-- scope.New: its numbers from the first of these on that is free. -/
noncomputable def newF (l : List Nat) (s : St) : Option (AV × St) := List.rec none (fun c _ ih => Bool.rec ih (some (.ptr (Nat.add c 2) 0, ⟨layA (nil3 c) s.heap, Nat.add c 55, s.wr⟩)) (Nat.ble s.next c)) l
noncomputable def newX (l : List Nat) : List AV → St → Option (AV × St)
  | [] => newF l
  | _ => fun _ => none
noncomputable def trueX : List AV → St → Option (AV × St)
  | [] => fun s => some (.bool true, s)
  | _ => fun _ => none
noncomputable def footX (args : List AV) (s : St) : Option (AV × St) := Bool.rec none (some (.bool false, ⟨layM foot110 s.heap, 60300, appR (mapR OB.b foot110) s.wr⟩)) (and (and (eqAVs args110 args) (okObs 0 s.heap foot110)) (Nat.ble s.next 60254))
noncomputable def xf1 (c : Nat) (args : List AV) (s : St) : Option (AV × St) := Nat.rec (contX s args) (fun c _ => Nat.rec (newX [20000, 40000, 60000] args s) (fun c _ => Nat.rec (sortX 262 9 s args) (fun c _ => Nat.rec (findMemo memos args s) (fun c _ => Nat.rec (trueX args s) (fun _ _ => footX args s) c) c) c) c) c
noncomputable def ext1 : T Nat := ((((T.set .leaf 463 0).set 87 1).set 184 2).set 5 3).set 110 5
noncomputable def ext2 : T Nat := ext1.set 7 4
noncomputable def B1 : Tb := tb Tryz.prog ext1 xf1
noncomputable def B2 : Tb := tb Tryz.prog ext2 xf1
end Go.Proofs.Tryz
