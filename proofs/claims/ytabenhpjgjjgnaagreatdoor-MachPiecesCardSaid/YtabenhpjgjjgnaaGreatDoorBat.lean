/- A new machine, for a program of one module without words to begin with. Layer 16, bundled. One, ins, ends of layer 20's laws. Condition: what lies in memory can lie there; what each theorem says. -/
import Derived.Test.YtabenhpjgjjgnaaGreatDoorBas
import Derived.Test.YtabenhpjgjjgnaaGreatDoorBak
import Derived.Test.YtabenhpjgjjgnaaGreatDoorBaj
import Derived.Test.YtabenhpjgjjgnaaGreatDoorBaa
import Derived.Test.YtabenhpjgjjgnaaGreatDoorBag
import Derived.Test.YtabenhpjgjjgnaaGreatDoorBap
import Derived.Deep.RegionHeld3
import Derived.Deep.DrawnRows
import Derived.Deep.DeepCutAuto
/- A new machine, for a program of one module without words to begin with. -/
namespace Go.Proofs.YtabenhpjgjjgnaaGreatDoor
open Go.RowKit
set_option maxRecDepth 100000
def zeroS (inp : List UInt8) : St := zeroG (fun _ => 0) inp
def trapS (r : St × Nat) : St := if r.2 ≠ 0 then { r.1 with kind := 2, trap := r.2 } else r.1
def startS (K : MK) (inp : List UInt8) : St := { trapS (beginsM K (zeroS inp)) with at_ := (trapS (beginsM K (zeroS inp))).next }
structure NewK (K : MK) (m : ModL) (o : List Int) (st hp out : Nat) : Prop where
 mods : K.mods = [m]
 order : K.order = o
 low : K.low = 1 + m.data
 high : K.high = 1 + m.data + st
 n : (K.n : Int) = m.data + st + hp
 most : K.most = out
def NewEnd (m : ModL) (o : List Int) (st hp out : Nat) (inp : List UInt8) (W : World) (e : Ending) (w' : World) : Prop :=
 ∃ K : MK, e = .returned (.tuple #[.pointer (some ⟨K.b, 0, none⟩), .int .i64 0]) ∧ KOk K ∧ NewK K m o st hp out ∧ At K (startS K inp) w' ∧ (∀ b ∈ K.bs, W.heap.size ≤ b) ∧ Below W.heap.size W w'
theorem new_one (A2 A3 : Option Addr) (c2 c3 : Nat) (m : ModL) (o : List Int) (hck : checkB [m] o = true) (hin : m.init = []) (hol : o.length ≤ 1000) (hd0 : 0 ≤ m.data) (st hp out : Nat) (hout : out ≤ 16384) (hfit : m.data + st + hp ≤ 65535) (_hpl : m.procs.length ≤ 1024) (_hil0 : m.imports.length ≤ 255) (inp : List UInt8) (hil : inp.length ≤ 16384) (W : World) (hM : Mods W A2 [m]) (hO : Ints W A3 o) :
 Calls Tryz.prog 8 #[.agg #[.slice A2 1 c2, .slice A3 o.length c3], .agg #[.int .i64 st, .int .i64 hp, .int .i64 out], .string ⟨inp.toArray⟩] W (NewEnd m o st hp out inp W) := by
 refine new_rows [] A2 A3 c2 c3 [m] o hck hol st hp out (by omega) (by omega) (by omega) (by omega) (by omega) (by omega) inp (by omega) W (by simp) (by
  have e0 : W.heap.mapIdx (fun _ o => o) = W.heap := by
   apply Array.ext_getElem?
   intro k
   simp
  have e : mask [] W = W := by
   unfold mask
   simp only [List.not_mem_nil, if_false]
   rw [e0]
  rw [e]; exact hM) hO _ (fun e w' h => ?_)
 have hs : sumD [m] = m.data := by simp [sumD]
 rcases h with ⟨x, hx, hne, _⟩ | ⟨_, K, he, hK, hN, hA, hb, hB⟩
 ·exfalso
  unfold newErr termErr at hne
  rw [hck, hs, if_neg (by decide), if_neg (by omega), if_neg (by omega), if_neg (by omega)] at hne
  omega
 ·refine ⟨K, he, hK, ⟨hN.mods, hN.order, by rw [hN.low, hs], by rw [hN.high, hs], by rw [hN.n, hs], hN.most⟩, ?_, hb, hB⟩
  have e : startG K inp = startS K inp := by
   unfold startG startS zeroS trapS trapG
   rw [hN.mods]
   simp only [initAll, hin, initRow]
  rw [← e]
  exact hA.less
end Go.Proofs.YtabenhpjgjjgnaaGreatDoor
/- Layer 16, bundled. -/
section
namespace Go.Proofs.YtabenhpjgjjgnaaGreatDoor.K16
open Go.RowKit
set_option maxRecDepth 100000
set_option maxHeartbeats 400000 in
theorem refThere (n : Nat) (w : World) : Calls Tryz.prog 167 #[.int .u8 n] w fun e w' => e = .returned (.bool (thereB n)) ∧ w = w' := by
 unfold thereB
 by_cases h1 : 1 ≤ n
 ·by_cases h2 : n ≤ 31
  ·have d1 : decide (1 ≤ n) = true := by simpa using h1
   have d2 : decide (n ≤ 31) = true := by simpa using h2
   go_enter Tryz.func167, Tryz.ntmps167
   go_wp2
   go_ret
   simp
  ·by_cases h3 : 40 ≤ n
   ·by_cases h4 : n ≤ 81
    all_goals
     go_enter Tryz.func167, Tryz.ntmps167
     go_wp2
     go_ret
     first | (simp [h1, h2, h3, h4]; done) | (simp [h1, h2, h3, h4]; omega)
   ·go_enter Tryz.func167, Tryz.ntmps167
    go_wp2
    go_ret
    first | (simp; done) | (simp; omega)
 ·have h0 : n = 0 := by omega
  subst h0
  go_enter Tryz.func167, Tryz.ntmps167
  go_wp2
  go_ret
  simp
set_option maxHeartbeats 1000000 in
theorem refForm (n : Nat) (hn : n < 256) (w : World) :
 Calls Tryz.prog 168 #[.int .u8 n] w fun e w' => e = .returned (.tuple #[.string ⟨(formL n).toArray⟩, .bool (thereB n)]) ∧ w = w' := by
 go_enter Tryz.func168, Tryz.ntmps168
 go_wp2_with fail
 all_goals first
  | (rename_i h
     have h' := congrArg Int.toNat (eq_of_beq h)
     simp only [Int.toNat_natCast, Int.reduceToNat] at h'
     subst h'
     go_ret2
     exact ⟨rfl, rfl⟩)
  | skip
 have hL := Lib.hid (formL_nil n (by assumption) (by assumption) (by assumption) (by assumption) (by assumption) (by assumption) (by assumption) (by assumption) (by assumption) (by assumption) (by assumption) (by assumption) (by assumption) (by assumption) (by assumption) (by assumption) (by assumption) (by assumption) (by assumption) (by assumption) (by assumption) (by assumption) (by assumption) (by assumption) (by assumption) (by assumption))
 refine (refThere n _).mono ?_
 rintro e w' ⟨rfl, rfl⟩
 go_wp2_with fail
 go_ret2
 exact ⟨by rw [hL.out]; simp, rfl⟩
set_option maxHeartbeats 400000 in
theorem refKind (n : Nat) (hn : n < 256) (k : Nat) (hk : k ≤ 9223372036854775807) (w : World) :
 Calls Tryz.prog 169 #[.int .u8 n, .int .i64 k] w fun e w' => e = .returned (.int .u8 ((kindL n k).toNat : Int)) ∧ w = w' := by
 have hf := form_short n
 by_cases h1 : k < (formL n).length
 ·have HK := Lib.hid (show ((⟨(formL n).toArray⟩ : ByteArray)[k]'(by simpa [ByteArray.size] using h1)).toNat = (kindL n k).toNat by
   unfold kindL; rw [if_pos h1, List.getD_eq_getElem?_getD, List.getElem?_eq_getElem h1]; rfl)
  go_enter Tryz.func169, Tryz.ntmps169
  go_wp2_with fail
  refine (refForm n hn _).mono ?_
  rintro e w' ⟨rfl, rfl⟩
  go_wp2_with fail
  go_ret
  exact ⟨ret1 (vint (by rw [← HK.out])), rfl⟩
 ·by_cases h2 : (k - (formL n).length) % 3 = 2
  ·have HK := Lib.hid (show kindL n k = 74 by unfold kindL; rw [if_neg h1, if_pos h2])
   have d2 : (((k : Int) - ((formL n).length : Int)) % 3 == 2) = true := by simp; omega
   clear h2
   go_enter Tryz.func169, Tryz.ntmps169
   go_wp2_with fail
   refine (refForm n hn _).mono ?_
   rintro e w' ⟨rfl, rfl⟩
   go_wp2_with fail
   go_ret
   exact ⟨by rw [HK.out]; rfl, rfl⟩
  ·have HK := Lib.hid (show kindL n k = 87 by unfold kindL; rw [if_neg h1, if_neg h2])
   have d2 : (((k : Int) - ((formL n).length : Int)) % 3 == 2) = false := by simp; omega
   clear h2
   go_enter Tryz.func169, Tryz.ntmps169
   go_wp2_with fail
   refine (refForm n hn _).mono ?_
   rintro e w' ⟨rfl, rfl⟩
   go_wp2_with fail
   go_ret
   exact ⟨by rw [HK.out]; rfl, rfl⟩
set_option maxHeartbeats 400000 in
theorem refMay (c : UInt8) (hc : letter c) (x : Int) (w : World) :
 Calls Tryz.prog 207 #[.int .u8 (c.toNat : Int), .int .i64 x] w fun e w' => e = .returned (.bool (inK c x)) ∧ w = w' := by
 rcases hc with rfl | rfl | rfl
 ·by_cases h1 : 0 ≤ x
  ·by_cases h2 : x ≤ 255
   all_goals
    go_enter Tryz.func207, Tryz.ntmps207
    go_wp2_with fail
    go_ret
    first | (simp [inK, lowK, highK, h1, h2]; done) | (simp [inK, lowK, highK]; omega)
  ·go_enter Tryz.func207, Tryz.ntmps207
   go_wp2_with fail
   go_ret
   first | (simp [inK, lowK, highK]; done) | (simp [inK, lowK, highK]; omega)
 ·by_cases h1 : 0 ≤ x
  ·by_cases h2 : x ≤ 65535
   all_goals
    go_enter Tryz.func207, Tryz.ntmps207
    go_wp2_with fail
    go_ret
    first | (simp [inK, lowK, highK, h1, h2]; done) | (simp [inK, lowK, highK]; omega)
  ·go_enter Tryz.func207, Tryz.ntmps207
   go_wp2_with fail
   go_ret
   first | (simp [inK, lowK, highK]; done) | (simp [inK, lowK, highK]; omega)
 ·by_cases h1 : -32768 ≤ x
  ·by_cases h2 : x ≤ 32767
   all_goals
    go_enter Tryz.func207, Tryz.ntmps207
    go_wp2_with fail
    go_ret
    first | (simp [inK, lowK, highK, h1, h2]; done) | (simp [inK, lowK, highK]; omega)
  ·go_enter Tryz.func207, Tryz.ntmps207
   go_wp2_with fail
   go_ret
   first | (simp [inK, lowK, highK]; done) | (simp [inK, lowK, highK]; omega)
end Go.Proofs.YtabenhpjgjjgnaaGreatDoor.K16
end
section
namespace Go.Proofs.YtabenhpjgjjgnaaGreatDoor.K16
open Go.RowKit
set_option maxRecDepth 100000
set_option maxHeartbeats 400000 in
theorem refNumber (c : UInt8) (hc : letter c) (x : Int) (hx : inK c x = true) (w : World) :
 Calls Tryz.prog 170 #[.int .u8 (c.toNat : Int), .int .i64 x] w fun e w' =>
  e = .returned (.slice (some ⟨w.heap.size, 0, none⟩) (encArg c x).length (encArg c x).length) ∧ w' = w.alloc (.cells (byteVals (encArg c x)) 5) := by
 unfold inK lowK highK at hx
 simp only [Bool.and_eq_true, decide_eq_true_eq] at hx
 rcases hc with rfl | rfl | rfl
 ·simp at hx
  obtain ⟨h1, h2⟩ := hx
  have e1 := ofNat_int (x % 256) (by omega) (by omega)
  have E : byteVals (encArg 66 x) = #[.int .u8 x] := by
   have : encArg 66 x = [UInt8.ofNat (x % 256).toNat] := rfl
   rw [this]
   simp only [byteVals, List.map_cons, List.map_nil, e1]
   rw [show x % 256 = x by omega]
  have E2 : (encArg 66 x).length = 1 := rfl
  rw [E, E2]
  clear E E2 e1
  go_enter Tryz.func170, Tryz.ntmps170
  go_wp2_with fail
  go_ret
  exact ⟨rfl, rfl⟩
 ·simp at hx
  obtain ⟨h1, h2⟩ := hx
  have e1 := ofNat_int (x % 256) (by omega) (by omega)
  have e2 := ofNat_int (x / 256 % 256) (by omega) (by omega)
  have E : byteVals (encArg 87 x) = #[.int .u8 (x / 256 % 256), .int .u8 (x % 256)] := by
   simp only [encArg, byteVals, if_neg (show ¬ (87 : UInt8) = 66 by decide), List.map_cons, List.map_nil, e1, e2]
  have E2 : (encArg 87 x).length = 2 := rfl
  rw [E, E2]
  clear E E2 e1 e2
  have g0 : decide (x < 0) = false := by simp; omega
  go_enter Tryz.func170, Tryz.ntmps170
  go_wp2_with fail
  go_ret
  exact ⟨rfl, by rw [show x / 256 % 256 = x / 256 by omega]⟩
 ·simp at hx
  obtain ⟨h1, h2⟩ := hx
  have e1 := ofNat_int (x % 256) (by omega) (by omega)
  have e2 := ofNat_int (x / 256 % 256) (by omega) (by omega)
  have E : byteVals (encArg 74 x) = #[.int .u8 (x / 256 % 256), .int .u8 (x % 256)] := by
   simp only [encArg, byteVals, if_neg (show ¬ (74 : UInt8) = 66 by decide), List.map_cons, List.map_nil, e1, e2]
  have E2 : (encArg 74 x).length = 2 := rfl
  rw [E, E2]
  clear E E2 e1 e2
  by_cases h0 : x < 0
  ·have g0 : decide (x < 0) = true := by simp; omega
   go_enter Tryz.func170, Tryz.ntmps170
   go_wp2_with fail
   go_ret
   exact ⟨rfl, by rw [show x / 256 % 256 = (x + 65536) / 256 by omega, show x % 256 = (x + 65536) % 256 by omega]⟩
  ·have g0 : decide (x < 0) = false := by simp; omega
   go_enter Tryz.func170, Tryz.ntmps170
   go_wp2_with fail
   go_ret
   exact ⟨rfl, by rw [show x / 256 % 256 = x / 256 by omega]⟩
end Go.Proofs.YtabenhpjgjjgnaaGreatDoor.K16
end
section
namespace Go.Proofs.YtabenhpjgjjgnaaGreatDoor.K16
open Go.RowKit
set_option maxRecDepth 100000
theorem quiet_same {P : Program} {f : FuncId} {args : Array Value} {w : World} {x : Gr} {v : Value}
 (h : Calls P f args (growN w x) fun e w' => e = .returned v ∧ growN w x = w') : Calls P f args (growN w x) fun e w'' => e = .returned v ∧ ∃ y, w'' = growN w y :=
 h.mono fun _ _ ⟨he, hb⟩ => ⟨he, x, hb.symm⟩
def RefEnd (w : World) (r : List UInt8 × Int) (e : Ending) (w' : World) : Prop :=
 ∃ v, e = .returned (.tuple #[v, .int .i64 r.2]) ∧ w'.ownsRow w.heap.size 5 1 v r.1.length (byteVals r.1).toList ∧ Below w.heap.size w w'
theorem RefEnd.none (w w' : World) (k : Int) (h : Below w.heap.size w w') : RefEnd w ([], k) (.returned (.tuple #[.slice none 0 0, .int .i64 k])) w' :=
 ⟨_, rfl, World.ownsRow_nil .., h⟩
set_option maxHeartbeats 400000 in
theorem refOne_none (n : Nat) (_hn : n < 256) (hT : thereB n = false) (A : Option Addr) (args : List Int) (cap : Nat) (w : World) :
 Calls Tryz.prog 120 #[.agg #[.int .u8 n, .slice A args.length cap]] w (RefEnd w (oneL n args)) := by
 have HO := Lib.hid (show oneL n args = ([], 160) by unfold oneL; simp [hT])
 go_enter Tryz.func120, Tryz.ntmps120
 go_wp2_with fail
 refine (refThere n _).mono ?_
 rintro e w' ⟨rfl, rfl⟩
 rw [hT]
 go_wp2_with fail
 go_ret2
 rw [HO.out]
 exact RefEnd.none _ _ _ ((Below.refl _ _).alloc (Nat.le_refl _) _)
set_option maxHeartbeats 800000 in
theorem refOne_few (n : Nat) (hn : n < 256) (hT : thereB n = true) (A : Option Addr) (args : List Int) (cap : Nat) (hl : args.length ≤ 17592186044416) (hR : rowsOk n args.length = false) (w : World) :
 Calls Tryz.prog 120 #[.agg #[.int .u8 n, .slice A args.length cap]] w (RefEnd w (oneL n args)) := by
 have HO := Lib.hid (show oneL n args = ([], 2) by unfold oneL; simp [hT, hR])
 have hf := form_short n
 have HC : args.length < (formL n).length ∨ ((formL n).length < args.length ∧ (n ≠ 60 ∨ (args.length - (formL n).length) % 3 ≠ 0)) := by
  unfold rowsOk at hR
  by_cases h : n = 60
  ·subst h
   have h2 : (formL 60).length = 2 := rfl
   simp at hR
   omega
  ·rw [if_neg h] at hR
   simp at hR
   omega
 by_cases h1 : args.length < (formL n).length
 ·have g1 : decide ((args.length : Int) - ((formL n).length : Int) < 0) = true := by simp; omega
  clear HC h1
  go_enter Tryz.func120, Tryz.ntmps120
  go_wp2_with fail
  refine (refThere n _).mono ?_
  rintro e w' ⟨rfl, rfl⟩
  rw [hT]
  go_wp2_with fail
  refine (refForm n hn _).mono ?_
  rintro e w' ⟨rfl, rfl⟩
  go_wp2_with fail
  go_ret2
  rw [HO.out]
  exact RefEnd.none _ _ _ ((Below.refl _ _).alloc (Nat.le_refl _) _)
 ·have g1 : decide ((args.length : Int) - ((formL n).length : Int) < 0) = false := by simp; omega
  have g2 : decide (0 < (args.length : Int) - ((formL n).length : Int)) = true := by simp; omega
  have g2' : (formL n).length < args.length := by omega
  by_cases h6 : n = 60
  ·have g3 : ((n : Int) != 60) = false := by simp [h6]
   have g4 : (((args.length : Int) - ((formL n).length : Int)) % 3 != 0) = true := by
    have : (args.length - (formL n).length) % 3 ≠ 0 := by omega
    simp; omega
   clear HC h1 h6
   go_enter Tryz.func120, Tryz.ntmps120
   go_wp2_with fail
   refine (refThere n _).mono ?_
   rintro e w' ⟨rfl, rfl⟩
   rw [hT]
   go_wp2_with fail
   refine (refForm n hn _).mono ?_
   rintro e w' ⟨rfl, rfl⟩
   go_wp2_with fail
   go_ret2
   rw [HO.out]
   exact RefEnd.none _ _ _ ((Below.refl _ _).alloc (Nat.le_refl _) _)
  ·have g3 : ((n : Int) != 60) = true := by simp; omega
   clear HC h1 h6
   go_enter Tryz.func120, Tryz.ntmps120
   go_wp2_with fail
   refine (refThere n _).mono ?_
   rintro e w' ⟨rfl, rfl⟩
   rw [hT]
   go_wp2_with fail
   refine (refForm n hn _).mono ?_
   rintro e w' ⟨rfl, rfl⟩
   go_wp2_with fail
   go_ret2
   rw [HO.out]
   exact RefEnd.none _ _ _ ((Below.refl _ _).alloc (Nat.le_refl _) _)
end Go.Proofs.YtabenhpjgjjgnaaGreatDoor.K16
end
section
namespace Go.Proofs.YtabenhpjgjjgnaaGreatDoor.K16
open Go.RowKit
set_option maxRecDepth 100000
structure RefInv (w : World) (n : Nat) (A : Option Addr) (args : List Int) (cap : Nat) (wr : World) : Prop where
 op : wr.cell? ⟨w.heap.size, 0, none⟩ = some (.int .u8 n)
 row : wr.cell? ⟨w.heap.size, 1, none⟩ = some (.slice A args.length cap)
 ints : Ints w A args
 old : Below w.heap.size w wr
 size : w.heap.size < wr.heap.size
theorem RefInv.later {w wr wx : World} {n : Nat} {A : Option Addr} {args : List Int} {cap : Nat} (h : RefInv w n A args cap wr) (hb : Below wr.heap.size wr wx) : RefInv w n A args cap wx :=
 ⟨(hb.cell (p := ⟨w.heap.size, 0, none⟩) h.size).trans h.op, (hb.cell (p := ⟨w.heap.size, 1, none⟩) h.size).trans h.row, h.ints, h.old.trans (hb.mono (Nat.le_of_lt h.size)), Nat.lt_of_lt_of_le h.size hb.size⟩
theorem RefInv.start (w : World) (n : Nat) (A : Option Addr) (args : List Int) (cap : Nat) (hA : Ints w A args) : RefInv w n A args cap (w.alloc (.cells #[.int .u8 n, .slice A args.length cap] 47)) :=
 ⟨by unfold World.cell?; rw [heap_alloc_new]; rfl, by unfold World.cell?; rw [heap_alloc_new]; rfl, hA, (Below.refl _ _).alloc (Nat.le_refl _) _, by simp⟩
theorem RefInv.grown {w wr w7 : World} {n : Nat} {A : Option Addr} {args : List Int} {cap : Nat} {v : Value} {m : Nat} {xs : List Value} (h : RefInv w n A args cap wr) (hown : wr.ownsRow (w.heap.size + 1) 5 1 v m xs) (hg : wr.grownBy w7 v.ownBlock) : RefInv w n A args cap w7 := by
 have hne : v.ownBlock ≠ some w.heap.size := fun e => by have := (hown.lt _ e).1; omega
 have hb : w7.heap[w.heap.size]? = wr.heap[w.heap.size]? := hg.block _ h.size (fun e => hne e.symm)
 have hold : Below w.heap.size w w7 := h.old.grown hg (Nat.le_of_lt h.size) (fun b hb => by have := (hown.lt _ hb).1; omega)
 refine ⟨(World.cell?_of_block (w := wr) hb).trans h.op, (World.cell?_of_block (w := wr) hb).trans h.row, h.ints, hold, ?_⟩
 have := h.op
 rw [← World.cell?_of_block (w := wr) (w' := w7) hb] at this
 unfold World.cell? at this
 split at this
 ·rename_i he; exact lt_of_get he
 ·cases this
theorem ok_at (n : Nat) (args : List Int) (h : okTo n args args.length = true) (k : Nat) (hk : k < args.length) : inK ((lettersOf n args.length).getD k 0) (args.getD k 0) = true := by
 unfold okTo at h
 exact List.all_eq_true.1 h k (List.mem_range.2 hk)
theorem refMayAs (d : Bool) (c : UInt8) (hc : letter c) (x : Int) (hd : inK c x = d) (w : World) :
 Calls Tryz.prog 207 #[.int .u8 (c.toNat : Int), .int .i64 x] w fun e w' => e = .returned (.bool d) ∧ w = w' := by
 subst hd; exact refMay c hc x w
set_option maxHeartbeats 4000000 in
theorem refOne_main (n : Nat) (hn : n < 256) (hT : thereB n = true) (A : Option Addr) (args : List Int) (cap : Nat) (hl : args.length ≤ 17592186044416) (hR : rowsOk n args.length = true) (w : World) (hA : Ints w A args) :
 Calls Tryz.prog 120 #[.agg #[.int .u8 n, .slice A args.length cap]] w (RefEnd w (oneL n args)) := by
 have hf := form_short n
 have HL := Lib.hid (fun k hk => kind_letters n args.length k hR hk)
 have hLen := Lib.hid (letters_length n args.length hR)
 have hBad := Lib.hid (fun k => one_bad n args k hT hR)
 have hLong := Lib.hid (fun h => one_long n args hT hR h)
 have hGood := Lib.hid (fun h => one_good n args hT hR h)
 have hmore : (args.length : Int) - ((formL n).length : Int) = 3 * (rowsOf n args.length : Int) ∧ (formL n).length ≤ args.length := by
  unfold rowsOk at hR
  unfold rowsOf
  by_cases h : n = 60
  ·subst h
   have h2 : (formL 60).length = 2 := rfl
   simp at hR
   rw [if_pos rfl, h2]
   omega
  ·rw [if_neg h] at hR ⊢
   simp at hR
   omega
 obtain ⟨hm1, hm2⟩ := hmore
 have g1 : decide ((args.length : Int) - ((formL n).length : Int) < 0) = false := by simp; omega
 have HI := Lib.hid (RefInv.start w n A args cap hA)
 have HGO : decide ((formL n).length < args.length) = false ∨ ((formL n).length < args.length ∧ ((n : Int) != 60) = false ∧ (((args.length : Int) - ((formL n).length : Int)) % 3 != 0) = false) := by
  by_cases h : (formL n).length < args.length
  ·refine .inr ⟨h, ?_, by rw [hm1]; simp⟩
   by_cases h6 : n = 60
   ·simp [h6]
   ·have : rowsOf n args.length = 0 := by unfold rowsOf; rw [if_neg h6]
    omega
  ·exact .inl (by simp; omega)
 have HR := Lib.hid hR
 clear hR hA
 go_enter Tryz.func120, Tryz.ntmps120
 go_wp2_with fail
 refine (refThere n _).mono ?_
 rintro e w' ⟨rfl, rfl⟩
 rw [hT]
 go_wp2_with fail
 refine (refForm n hn _).mono ?_
 rintro e w' ⟨rfl, rfl⟩
 generalize w.alloc (.cells #[.int .u8 n, .slice A args.length cap] 47) = w0 at *
 have p0 := HI.out.op
 have p1 := HI.out.row
 have p2 := HI.out.size
 go_upto_region 5 with (fail)
 go_cut [41] (fun b wx => b = .bool false ∧ wx = w0)
 case first =>
  rcases HGO with h | ⟨h1, h2, h3⟩
  ·have h' : ¬ (formL n).length < args.length := by simpa using h
   go_wp2_with fail
   go_meet
   exact ⟨rfl, rfl⟩
  ·go_wp2_with fail
   go_meet
   exact ⟨rfl, rfl⟩
 case rest =>
  obtain ⟨rfl, rfl⟩ := hcut
  clear HGO p0 p1 p2 g1
  go_wp2_with fail
  go_loopg [7] (args.length) (fun g i wr => ∃ k : Nat, k + g = args.length ∧ i = .int .i64 k ∧ okTo n args k = true ∧ RefInv w n A args cap wr)
  case atStart => exact ⟨0, by omega, rfl, rfl, HI.out⟩
  case round =>
   clear HI
   obtain ⟨k, hk, rfl, hok, hI⟩ := hrel
   have HOK := Lib.hid hok
   have HI := Lib.hid hI
   have q0 := hI.op
   have q1 := hI.row
   have q2 := hI.size
   by_cases hlt : k < args.length
   ·obtain ⟨b1, o1, rfl, l1, q3⟩ := (hI.ints.later hI.old (Nat.le_refl _)).at_ hlt
    have hkI : (k : Int) < (args.length : Int) := by omega
    have HK := Lib.hid (HL.out k hlt)
    have HC := Lib.hid (kind_letter n k)
    clear hI hok
    generalize hx : args.getD k 0 = x at *
    have HX := Lib.hid hx
    clear hx
    generalize hb : inK (kindL n k) x = bb
    have HB := Lib.hid hb
    clear hb
    go_wp2_with fail
    refine wp_region_grow (by kernel_rfl) (by kernel_rfl) ?_
    repeat (first | go_big_quiet_step (first | (refine quiet_same (refKind n hn k (by omega) _)) | (refine quiet_same (refMayAs _ (kindL n k) HC.out x HB.out _))))
    refine wpQuiet_nil ?_
    rintro _ ⟨gx, rfl⟩
    have hq := growN_below wr gx
    generalize growN wr gx = wq at *
    cases bb
    case true =>
     go_wp2_with fail
     go_roundg (gk - 1)
     case measure => omega
     case rel =>
      refine ⟨k + 1, by omega, by go_num, ?_, HI.out.later hq⟩
      rw [okTo_succ, HOK.out, HK.out, HX.out, HB.out]; rfl
    case false =>
     go_wp2_with fail
     go_ret2
     rw [hBad.out k hlt (by rw [HK.out, HX.out, HB.out])]
     exact RefEnd.none _ _ _ (HI.out.later hq).old
   ·obtain rfl : k = args.length := by omega
    by_cases hr : 256 ≤ rowsOf n args.length
    ·have g5 : decide ((255 : Int) < 3 * (rowsOf n args.length : Int) / 3) = true := by simp; omega
     have HR5 := Lib.hid hr
     go_wp2_with fail
     go_ret2
     rw [hLong.out HOK.out HR5.out]
     exact RefEnd.none _ _ _ HI.out.old
    ·have g5 : decide ((255 : Int) < 3 * (rowsOf n args.length : Int) / 3) = false := by simp; omega
     have HG := Lib.hid (hGood.out HOK.out (by omega))
     have hfew := few_args n args.length HR.out (by omega)
     clear hI hok
     go_wp2_with fail
     go_loopg [8, 9] (args.length) (fun g v i wx => ∃ k : Nat, k + g = args.length ∧ i = .int .i64 k ∧ RefInv w n A args cap wx ∧ wx.ownsRow (w.heap.size + 1) 5 1 v (encTo n args k).length (byteVals (encTo n args k)).toList)
     case atStart =>
      refine ⟨0, by omega, rfl, HI.out.later ((Below.refl _ _).alloc (Nat.le_refl _) _), ?_⟩
      have e0 : (UInt8.ofNat n).toNat = n := by rw [show (UInt8.ofNat n).toNat = n % 256 from UInt8.toNat_ofNat]; omega
      refine ⟨by simp [encTo, byteVals], .inr ⟨_, 1, _, rfl, HI.out.size, heap_alloc_new _ _, Nat.le_refl _, by decide, rfl, ?_⟩⟩
      simp [encTo, byteVals, e0]
     case round =>
      clear HI q0 q1 q2
      obtain ⟨k, hk, rfl, hI, hown⟩ := hrel
      have HI := Lib.hid hI
      have HO := Lib.hid hown
      have q0 := hI.op
      have q1 := hI.row
      have q2 := hI.size
      by_cases hlt : k < args.length
      ·obtain ⟨b1, o1, rfl, l1, q3w⟩ := hI.ints.at_ hlt
       have q3 := (hI.old.cell (p := ⟨b1, o1 + k, none⟩) l1).trans q3w
       have hkI : (k : Int) < (args.length : Int) := by omega
       have HK := Lib.hid (HL.out k hlt)
       have HC := Lib.hid (kind_letter n k)
       have HIN := Lib.hid (ok_at n args HOK.out k hlt)
       rw [HK.out] at HIN
       have HE1 := Lib.hid (fun h => encTo_case n args k h)
       have HE2 := Lib.hid (fun h => encTo_step n args k h)
       rw [HK.out] at HE1 HE2
       have hes := encTo_short n args k
       have hel := encArg_short (kindL n k) (args.getD k 0)
       have heq := encArg_len (kindL n k) (args.getD k 0)
       obtain ⟨i0, hi0, hz0, hz1, hz2⟩ := info_parts byte_info
       clear hI hown
       generalize hx : args.getD k 0 = x at *
       have HX := Lib.hid hx
       clear hx
       have hpos : 0 < (encArg (kindL n k) x).length := by rw [heq]; unfold sizeN; split <;> omega
       clear heq
       have hmax : (encTo n args k).length + (encArg (kindL n k) x).length ≤ maxLen := by unfold maxLen; omega
       have hbytes : ((encTo n args k).length + (encArg (kindL n k) x).length) * 1 ≤ 140737488355328 := by omega
       have Q3 := Lib.hid q3w
       clear q3w
       go_upto_region 18 with (fail)
       go_cut [8] (fun v wx => RefInv w n (some ⟨b1, o1, none⟩) args cap wx ∧ wx.ownsRow (w.heap.size + 1) 5 1 v ((encTo n args k).length + (encArg (kindL n k) x).length) ((byteVals (encTo n args k)).toList ++ (byteVals (encArg (kindL n k) x)).toList))
       case first =>
        have HI2 := Lib.hid (HI.out.later (drew_below wr))
        have HO2 := Lib.hid (own_later HO.out (drew_below wr))
        go_region_held3 (fun w' => w'.cell? ⟨w.heap.size, 0, none⟩ = some (.int .u8 n) ∧ w'.cell? ⟨w.heap.size, 1, none⟩ = some (.slice (some ⟨b1, o1, none⟩) args.length cap) ∧ w'.cell? ⟨b1, o1 + k, none⟩ = some (.int .i64 x)) (go_keep) (first
         | (go_at_call 169
            refine (refKind n hn k (by omega) _).mono ?_
            rintro e w6 ⟨rfl, rfl⟩)
         | (go_at_call 170
            refine (refNumber (kindL n k) HC.out x HIN.out _).mono ?_
            rintro e w7 ⟨rfl, rfl⟩)
         | (refine step_app etBytes (by rfl) _ _ (by rfl) (w.heap.size + 1) _ (encTo n args k).length (byteVals (encTo n args k)).toList (by rfl) (HO2.out.alloc _) _ (encArg (kindL n k) x).length (byteVals (encArg (kindL n k) x)).toList (by rfl) (src_new etBytes wr.drew (byteVals (encArg (kindL n k) x)) 5 _ _ (byteVals_size _) (byteVals_one _)) hbytes hmax (by simp; omega) ?_
            intro v8 w8 hA8
            have A8 := Lib.hid (RefInv.grown (HI2.out.later ((Below.refl _ _).alloc (Nat.le_refl _) _)) (HO2.out.alloc _) hA8.grown)
            have O8 := Lib.hid hA8.own
            have s0 := A8.out.op
            have s1 := A8.out.row
            have s2 := (A8.out.old.cell (p := ⟨b1, o1 + k, none⟩) l1).trans Q3.out
            clear hA8))
        all_goals (go_wp2_with fail; go_meet; exact ⟨A8.out, O8.out⟩)
       case rest =>
        obtain ⟨hI, hown⟩ := hcut
        have HI := Lib.hid hI
        have HO := Lib.hid hown
        have q0 := hI.op
        have q2 := hI.size
        clear hI hown q1
        by_cases h60 : n = 60 ∧ k = 0
        ·have b1' : ((n : Int) == 60) = true := by simp; omega
         have b2' : ((k : Int) == 0) = true := by simp; omega
         have HE := Lib.hid (HE1.out h60)
         clear h60 HE1 HE2
         have hrw : rowsOf n args.length < 256 := by omega
         have HBV := Lib.hid (show (byteVals [UInt8.ofNat (rowsOf n args.length)]) = #[.int .u8 (rowsOf n args.length : Int)] by
          simp only [byteVals, List.map_cons, List.map_nil]; rw [show (UInt8.ofNat (rowsOf n args.length)).toNat = rowsOf n args.length % 256 from UInt8.toNat_ofNat, Nat.mod_eq_of_lt hrw])
         go_wp2_with (at_builtin; refine wpList_app etBytes rfl _ _ rfl (w.heap.size + 1) u8 _ _ rfl (HO.out.alloc _) _ 1 [.int .u8 (rowsOf n args.length : Int)] rfl (src_new etBytes wc #[.int .u8 (rowsOf n args.length : Int)] 5 1 1 rfl (by simp [Value.oneCell'])) (by omega) (by unfold maxLen; omega) (by simp; omega) ?_; intro v9 w9 hA9)
         have A9 := Lib.hid (RefInv.grown (HI.out.later ((Below.refl _ _).alloc (Nat.le_refl _) _)) (HO.out.alloc _) hA9.grown)
         have O9 := Lib.hid hA9.own
         clear hA9
         go_wp2_with fail
         go_roundg (gk - 1)
         case measure => omega
         case rel =>
          refine ⟨k + 1, by omega, by go_num, A9.out, ?_⟩
          have := O9.out
          rw [HE.out, byteVals_append, byteVals_append, HBV.out]
          simpa [Nat.add_assoc] using this
        ·have b2' : (((n : Int) == 60) = true ∧ ((k : Int) == 0) = false) ∨ ((n : Int) == 60) = false := by
          by_cases h : n = 60
          ·left; refine ⟨by simp [h], ?_⟩; have : k ≠ 0 := fun h0 => h60 ⟨h, h0⟩; simp; omega
          ·right; simp; omega
         have HE := Lib.hid (HE2.out h60)
         clear h60 HE1 HE2
         rcases b2' with ⟨b1', b2'⟩ | b1'
         all_goals
          go_wp2_with fail
          go_roundg (gk - 1)
          case measure => omega
          case rel =>
           refine ⟨k + 1, by omega, by go_num, HI.out, ?_⟩
           have := HO.out
           rw [HE.out, byteVals_append]
           simpa using this
      ·obtain rfl : k = args.length := by omega
       go_wp2_with fail
       go_ret2
       rw [HG.out]
       exact ⟨_, rfl, own_lower HO.out (by omega), HI.out.old⟩
theorem refOne_any (n : Nat) (hn : n < 256) (A : Option Addr) (args : List Int) (cap : Nat) (hl : args.length ≤ 17592186044416) (w : World) (hA : Ints w A args) :
 Calls Tryz.prog 120 #[.agg #[.int .u8 n, .slice A args.length cap]] w (RefEnd w (oneL n args)) := by
 by_cases hT : thereB n = true
 ·by_cases hR : rowsOk n args.length = true
  ·exact refOne_main n hn hT A args cap hl hR w hA
  ·exact refOne_few n hn hT A args cap hl (by simpa using hR) w
 ·exact refOne_none n hn (by simpa using hT) A args cap w
end Go.Proofs.YtabenhpjgjjgnaaGreatDoor.K16
end
section
namespace Go.Proofs.YtabenhpjgjjgnaaGreatDoor.K16
open Go.RowKit
set_option maxRecDepth 100000
end Go.Proofs.YtabenhpjgjjgnaaGreatDoor.K16
end
section
namespace Go.Proofs.YtabenhpjgjjgnaaGreatDoor.K16
open Go.RowKit
set_option maxRecDepth 100000
set_option maxHeartbeats 1000000 in
theorem refEncode_any (L : Option Addr) (l : List InsL) (cap : Nat) (hl : l.length ≤ 1073741824) (w : World) (hL : Inss w L l) :
 Calls Tryz.prog 52 #[.slice L l.length cap] w (OneEnd w (encodeL l)) := by
 go_enter Tryz.func52, Tryz.ntmps52
 go_wp2_with fail
 go_loopg [4, 5] (l.length) (fun g v i wr => ∃ k : Nat, k + g = l.length ∧ i = .int .i64 k ∧ errOf (l.take k) = 0 ∧ wr.ownsRow w.heap.size 5 1 v (bytesOf (l.take k)).length (byteVals (bytesOf (l.take k))).toList ∧ Below w.heap.size w wr)
 case atStart => exact ⟨0, by omega, rfl, rfl, World.ownsRow_nil .., Below.refl _ _⟩
 case round =>
  obtain ⟨k, hk, rfl, herr, hown, hb⟩ := hrel
  have HE := Lib.hid herr
  have HO := Lib.hid hown
  clear herr hown
  by_cases hlt : k < l.length
  ·obtain ⟨b, off, rfl, hbw, hI⟩ := hL.at_ hlt
   obtain ⟨A, cap2, c0, c1, hA, hn, hlen⟩ := hI.later hb (Nat.le_refl _) hbw
   clear hI
   have hbr : b < wr.heap.size := by have := hb.size; omega
   have HN1 := Lib.hid (errOf_at l k hlt HE.out)
   have HN2 := Lib.hid (errOf_next l k hlt HE.out)
   have HN3 := Lib.hid (bytesOf_snoc l k hlt)
   generalize l.getD k (0, []) = i at *
   obtain ⟨n, args⟩ := i
   simp only at c0 c1 hA hn hlen
   have hkI : (k : Int) < (l.length : Int) := by omega
   have hAr := Lib.hid hA
   clear hA hL
   have hos := oneL_short n args
   have hbs := bytesOf_short (l.take k)
   have htk : (l.take k).length ≤ k := List.length_take_le _ _
   go_wp2_with fail
   refine (refOne_any n hn A args cap2 hlen _ hAr.out).mono ?_
   rintro e w5 ⟨v5, rfl, hown5, hb5⟩
   have HO5 := Lib.hid hown5
   have hb6 := hb.trans (hb5.mono hb.size)
   have HOB := Lib.hid (own_later HO.out hb5)
   have hws : w.heap.size ≤ w5.heap.size := hb6.size
   clear HO hb5 hAr c0 c1 hown5
   generalize oneL n args = r at *
   obtain ⟨rb, re⟩ := r
   simp only at hos HN1 HN2 HN3 HO5 ⊢
   by_cases hre : re = 0
   ·have e1 : (re != 0) = false := by simp [hre]
    have HN2 := Lib.hid (HN2.out hre)
    clear HN1 hre
    go_wp2_with (at_builtin; refine wpList_app etBytes rfl _ _ rfl w.heap.size _ _ _ rfl HOB.out _ rb.length _ rfl (src_own etBytes HO5.out (byteVals_one _)) (by omega) (by unfold maxLen; omega) hws ?_; intro v9 w9 hA9)
    have H9 := Lib.hid (hA9.below hb6 hws HOB.out (Nat.le_refl _))
    have O9 := Lib.hid hA9.own
    clear hA9
    go_wp2_with fail
    go_roundg (gk - 1)
    case measure => omega
    case rel =>
     refine ⟨k + 1, by omega, by go_num, HN2.out, ?_, H9.out⟩
     rw [HN3.out, byteVals_append, List.length_append]
     exact O9.out
   ·have e1 : (re != 0) = true := by simp [hre]
    have HN1 := Lib.hid (HN1.out hre)
    have HRE := Lib.hid hre
    clear HN2 HN3 hre
    go_wp2_with fail
    go_ret2
    refine ⟨?_, hb6⟩
    unfold encodeL
    rw [HN1.out, if_pos HRE.out]
    rfl
  ·obtain rfl : k = l.length := by omega
   have hbs := bytesOf_short l
   have HT := Lib.hid (show l.take l.length = l by simp)
   rw [HT.out] at HE HO
   obtain ⟨A, c, rfl⟩ := own_slice' HO.out
   have hconv := conv_own HO.out
   by_cases hlong : 65535 < (bytesOf l).length
   ·have HL := Lib.hid hlong
    go_wp2_with fail
    go_ret2
    refine ⟨?_, hb⟩
    unfold encodeL
    rw [HE.out, if_neg (by simp), if_pos HL.out]
    rfl
   ·have HL := Lib.hid hlong
    go_wp2_with fail
    go_ret2
    refine ⟨?_, hb⟩
    unfold encodeL
    rw [HE.out, if_neg (by simp), if_neg HL.out]
    rfl
end Go.Proofs.YtabenhpjgjjgnaaGreatDoor.K16
end
/- One, ins, ends of layer 20's laws. -/
namespace Go.Proofs.YtabenhpjgjjgnaaGreatDoor
open Go.RowKit
set_option maxRecDepth 100000
attribute [local go_sem ↓] Go.wp_at_zero Go.wp_at_succ
def InsEnd (n : Nat) (A : Option Addr) (k c : Nat) (w : World) (e : Ending) (w' : World) : Prop := e = .returned (.agg #[.int .u8 n, .slice A k c]) ∧ Below w.heap.size w w'
theorem ins_any (n : Nat) (A : Option Addr) (k c : Nat) (w : World) : Calls Tryz.prog 23 #[.int .u8 n, .slice A k c] w (InsEnd n A k c w) := by
 go_enter Tryz.func23, Tryz.ntmps23
 go_wp2_with fail
 refine bodyPost_ret (v := .agg #[.int .u8 n, .slice A k c]) ?_ rfl ⟨rfl, alloc_below _ _⟩
 simp [results, Tryz.results23, go_sem]
theorem prog_order {w : World} {g : Nat} (h : Bx g #[.int .i64 0] 3 w) : Ints w (some ⟨g, 0, none⟩) [0] :=
 .inr ⟨g, 0, rfl, h.lt, fun j hj => by
  obtain rfl : j = 0 := by simpa using hj
  exact (h.cell 0).trans rfl⟩
theorem prog_mods {w : World} {g k : Nat} {code : List UInt8} (h1 : Bx g #[.int .i64 0, .int .i64 0, .int .i64 0, .int .i64 8, .int .i64 1, .bool false] 113 w) (h2 : Bx k #[.string ⟨code.toArray⟩, .slice (some ⟨g, 0, none⟩) 1 1, .slice none 0 0, .int .i64 4, .slice none 0 0] 68 w) (hc : code.length ≤ 65535) :
 Mods w (some ⟨k, 0, none⟩) [oneM code] :=
 .inr ⟨k, 0, rfl, h2.lt, fun j hj => by
  obtain rfl : j = 0 := by simpa using hj
  refine ⟨⟨some ⟨g, 0, none⟩, 1, none, 0, none, 0⟩, ⟨.inr ⟨g, 0, rfl, h1.lt, fun j hj => ?_⟩, .inl rfl, .inl rfl, by simp [oneM]; omega, by simp [oneM], by simp [oneM], by simp [oneM]⟩, (h2.cell 0).trans rfl, (h2.cell 1).trans rfl, (h2.cell 2).trans rfl, (h2.cell 3).trans rfl, (h2.cell 4).trans rfl⟩
  obtain rfl : j = 0 := by simpa [oneM] using hj
  exact ⟨(h1.cell 0).trans rfl, (h1.cell 1).trans rfl, (h1.cell 2).trans rfl, (h1.cell 3).trans rfl, (h1.cell 4).trans rfl, (h1.cell 5).trans rfl⟩⟩
def ProgEnd (code : List UInt8) (w : World) (e : Ending) (w' : World) : Prop := ∃ A2 A3 c2 c3, e = .returned (.agg #[.slice A2 1 c2, .slice A3 1 c3]) ∧ Mods w' A2 [oneM code] ∧ Ints w' A3 [0] ∧ Below w.heap.size w w'
set_option maxHeartbeats 1000000 in
theorem one20_any (L : Option Addr) (l : List K16.InsL) (cap : Nat) (hl : l.length ≤ 1000) (he : (K16.encodeL l).2 = 0) (hc : (K16.encodeL l).1.length ≤ 65535) (w : World) (hL : K16.Inss w L l) :
 Calls Tryz.prog 22 #[.slice L l.length cap] w (ProgEnd (K16.encodeL l).1 w) := by
 have HL := Lib.hid hL
 have HE := Lib.hid he
 have HC := Lib.hid hc
 clear hL he hc
 go_enter Tryz.func22, Tryz.ntmps22
 go_wp2_with fail
 have HX0 := Lib.hid (Bx.new w #[.slice none 0 0, .slice none 0 0] 25)
 have HB0 := Lib.hid (alloc_below w (.cells #[.slice none 0 0, .slice none 0 0] 25))
 refine (K16.refEncode_any L l cap (by omega) _ (HL.out.later (alloc_below _ _) (Nat.le_refl _))).mono ?_
 rintro e w1 ⟨rfl, hb1⟩
 have HX1 := Lib.hid (HX0.out.grow hb1)
 have HB1 := Lib.hid (HB0.out.trans (hb1.mono HB0.out.size))
 generalize K16.encodeL l = r at *
 obtain ⟨code, er⟩ := r
 simp only at HC
 have x0 : w1.cell? ⟨w.heap.size, 0, none⟩ = some (.slice none 0 0) := (HX1.out.cell 0).trans rfl
 have x1 : w1.cell? ⟨w.heap.size, 1, none⟩ = some (.slice none 0 0) := (HX1.out.cell 1).trans rfl
 have xf := HX1.out.frozen
 have xl := HX1.out.lt
 clear hb1 HX0 HB0 HL
 have hm1 : w.heap.size < w1.heap.size + 1 := by omega
 have hm2 : w.heap.size < w1.heap.size + 1 + 1 := by omega
 have hm3 : w.heap.size ≤ w1.heap.size := by omega
 have hm4 : w.heap.size ≤ w1.heap.size + 1 := by omega
 go_wp2_with fail
 have hs2 : ((w1.setCell ⟨w.heap.size, 0, none⟩ (.slice (some ⟨w1.heap.size + 1, 0, none⟩) 1 1)).setCell ⟨w.heap.size, 1, none⟩ (.slice (some ⟨w1.heap.size + 1 + 1, 0, none⟩) 1 1)).heap.size = w1.heap.size := by simp
 have HX2 := Lib.hid ((HX1.out.set 0 (.slice (some ⟨w1.heap.size + 1, 0, none⟩) 1 1)).set 1 (.slice (some ⟨w1.heap.size + 1 + 1, 0, none⟩) 1 1))
 have HB2 := Lib.hid ((HB1.out.setCell (p := ⟨w.heap.size, 0, none⟩) (Nat.le_refl _) (.slice (some ⟨w1.heap.size + 1, 0, none⟩) 1 1)).setCell (p := ⟨w.heap.size, 1, none⟩) (Nat.le_refl _) (.slice (some ⟨w1.heap.size + 1 + 1, 0, none⟩) 1 1))
 generalize (w1.setCell ⟨w.heap.size, 0, none⟩ (.slice (some ⟨w1.heap.size + 1, 0, none⟩) 1 1)).setCell ⟨w.heap.size, 1, none⟩ (.slice (some ⟨w1.heap.size + 1 + 1, 0, none⟩) 1 1) = w2 at *
 rw [← hs2] at HX2 ⊢
 have HP1 := Lib.hid (Bx.new w2 #[.int .i64 0, .int .i64 0, .int .i64 0, .int .i64 8, .int .i64 1, .bool false] 113)
 have HA1 := Lib.hid (alloc_below w2 (.cells #[.int .i64 0, .int .i64 0, .int .i64 0, .int .i64 8, .int .i64 1, .bool false] 113))
 have HP2 := Lib.hid (show Bx (w2.heap.size + 1) #[.string ⟨code.toArray⟩, .slice (some ⟨w2.heap.size, 0, none⟩) 1 1, .slice none 0 0, .int .i64 4, .slice none 0 0] 68 ((w2.alloc (.cells #[.int .i64 0, .int .i64 0, .int .i64 0, .int .i64 8, .int .i64 1, .bool false] 113)).alloc (.cells #[.string ⟨code.toArray⟩, .slice (some ⟨w2.heap.size, 0, none⟩) 1 1, .slice none 0 0, .int .i64 4, .slice none 0 0] 68)) by simpa using Bx.new (w2.alloc (.cells #[.int .i64 0, .int .i64 0, .int .i64 0, .int .i64 8, .int .i64 1, .bool false] 113)) #[.string ⟨code.toArray⟩, .slice (some ⟨w2.heap.size, 0, none⟩) 1 1, .slice none 0 0, .int .i64 4, .slice none 0 0] 68)
 have HA2 := Lib.hid (alloc_below (w2.alloc (.cells #[.int .i64 0, .int .i64 0, .int .i64 0, .int .i64 8, .int .i64 1, .bool false] 113)) (.cells #[.string ⟨code.toArray⟩, .slice (some ⟨w2.heap.size, 0, none⟩) 1 1, .slice none 0 0, .int .i64 4, .slice none 0 0] 68))
 have HP3 := Lib.hid (show Bx (w2.heap.size + 1 + 1) #[.int .i64 0] 3 (((w2.alloc (.cells #[.int .i64 0, .int .i64 0, .int .i64 0, .int .i64 8, .int .i64 1, .bool false] 113)).alloc (.cells #[.string ⟨code.toArray⟩, .slice (some ⟨w2.heap.size, 0, none⟩) 1 1, .slice none 0 0, .int .i64 4, .slice none 0 0] 68)).alloc (.cells #[.int .i64 0] 3)) by simpa using Bx.new ((w2.alloc (.cells #[.int .i64 0, .int .i64 0, .int .i64 0, .int .i64 8, .int .i64 1, .bool false] 113)).alloc (.cells #[.string ⟨code.toArray⟩, .slice (some ⟨w2.heap.size, 0, none⟩) 1 1, .slice none 0 0, .int .i64 4, .slice none 0 0] 68)) #[.int .i64 0] 3)
 have HA3 := Lib.hid (alloc_below ((w2.alloc (.cells #[.int .i64 0, .int .i64 0, .int .i64 0, .int .i64 8, .int .i64 1, .bool false] 113)).alloc (.cells #[.string ⟨code.toArray⟩, .slice (some ⟨w2.heap.size, 0, none⟩) 1 1, .slice none 0 0, .int .i64 4, .slice none 0 0] 68)) (.cells #[.int .i64 0] 3))
 have HQ1 := Lib.hid ((HP1.out.grow HA2.out).grow HA3.out)
 have HQ2 := Lib.hid (HP2.out.grow HA3.out)
 have HXe := Lib.hid (((HX2.out.grow HA1.out).grow HA2.out).grow HA3.out)
 have HBe := Lib.hid (((HB2.out.trans (HA1.out.mono HB2.out.size)).trans (HA2.out.mono (Nat.le_trans HB2.out.size HA1.out.size))).trans (HA3.out.mono (Nat.le_trans (Nat.le_trans HB2.out.size HA1.out.size) HA2.out.size)))
 clear HP1 HP2 HA1 HA2 HA3 HB2 HX2 HX1 HB1
 generalize ((w2.alloc (.cells #[.int .i64 0, .int .i64 0, .int .i64 0, .int .i64 8, .int .i64 1, .bool false] 113)).alloc (.cells #[.string ⟨code.toArray⟩, .slice (some ⟨w2.heap.size, 0, none⟩) 1 1, .slice none 0 0, .int .i64 4, .slice none 0 0] 68)).alloc (.cells #[.int .i64 0] 3) = w3 at *
 have z0 : w3.cell? ⟨w.heap.size, 0, none⟩ = some (.slice (some ⟨w2.heap.size + 1, 0, none⟩) 1 1) := (HXe.out.cell 0).trans rfl
 have z1 : w3.cell? ⟨w.heap.size, 1, none⟩ = some (.slice (some ⟨w2.heap.size + 1 + 1, 0, none⟩) 1 1) := (HXe.out.cell 1).trans rfl
 refine bodyPost_ret (v := .agg #[.slice (some ⟨w2.heap.size + 1, 0, none⟩) 1 1, .slice (some ⟨w2.heap.size + 1 + 1, 0, none⟩) 1 1]) ?_ rfl ⟨_, _, _, _, rfl, prog_mods HQ1.out HQ2.out HC.out, prog_order HP3.out, HBe.out⟩
 simp [results, Tryz.results22, go_sem, z0, z1]
end Go.Proofs.YtabenhpjgjjgnaaGreatDoor
