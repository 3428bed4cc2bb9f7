/- Layer 16, bundled (printed by gen_k16.py): The document's answer for layer 16: There, Form, kind, may, number. One, ins, ends of layer 20's laws. How a small program ends, and what it wrote (ends). separatumlaw20.alive: true. Condition: what lies in memory can lie there; what each theorem says. -/
import Derived.Test.YtpfcojnkflcnoaaGreatDoorBi
import Derived.Test.YtpfcojnkflcnoaaGreatDoorBa
import Derived.Test.YtpfcojnkflcnoaaGreatDoorShelf
import Derived.Test.YtpfcojnkflcnoaaGreatDoorBm
import Derived.Test.YtpfcojnkflcnoaaGreatDoorBp
import Derived.Deep.RegionHeld3
import Derived.Deep.DrawnRows
import Derived.Deep.DeepCutAuto
import Derived.Outline
/- Layer 16, bundled (printed by gen_k16.py): The document's answer for layer 16: There, Form, kind, may, number. No condition. · The document's number: an instruction's number as bytes, in new memory. Condition: the number may be there. · The document's one: an instruction's bytes, in new memory. Conditions: what lies in memory can lie there. · The document's one where its numbers are so many as they must be. Condition: what lies in memory can lie there. · The law's Long and the document's Same and SameAll, walked. Conditions: lengths within what memory can hold. · The document's Encode and Size; code.Same. Conditions: what lies in memory can lie there. -/
section

namespace Go.Proofs.YtpfcojnkflcnoaaGreatDoor.K16
open Go.RowKit
set_option maxRecDepth 100000

set_option maxHeartbeats 400000 in
theorem refThere (n : Nat) (w : World) : Calls Tryz.prog 106 #[.int .u8 n] w fun e w' => e = .returned (.bool (thereB n)) ∧ w = w' := by
  unfold thereB
  by_cases h1 : 1 ≤ n
  · by_cases h2 : n ≤ 31
    · have d1 : decide (1 ≤ n) = true := by simpa using h1
      have d2 : decide (n ≤ 31) = true := by simpa using h2
      go_enter Tryz.func106, Tryz.ntmps106
      go_wp2
      go_ret
      simp
    · by_cases h3 : 40 ≤ n
      · by_cases h4 : n ≤ 81
        all_goals
          go_enter Tryz.func106, Tryz.ntmps106
          go_wp2
          go_ret
          first | (simp [h1, h2, h3, h4]; done) | (simp [h1, h2, h3, h4]; omega)
      · go_enter Tryz.func106, Tryz.ntmps106
        go_wp2
        go_ret
        first | (simp; done) | (simp; omega)
  · have h0 : n = 0 := by omega
    subst h0
    go_enter Tryz.func106, Tryz.ntmps106
    go_wp2
    go_ret
    simp

set_option maxHeartbeats 1000000 in
theorem refForm (n : Nat) (hn : n < 256) (w : World) :
    Calls Tryz.prog 107 #[.int .u8 n] w fun e w' => e = .returned (.tuple #[.string ⟨(formL n).toArray⟩, .bool (thereB n)]) ∧ w = w' := by
  go_enter Tryz.func107, Tryz.ntmps107
  go_wp2_with fail
  all_goals first
    | (rename_i h
       have h' := congrArg Int.toNat (eq_of_beq h)
       simp only [Int.toNat_natCast, Int.reduceToNat] at h'
       subst h'
       go_ret2
       exact ⟨rfl, rfl⟩)
    | skip
  have hL := Lib.hid (formL_nil n (by assumption) (by assumption) (by assumption) (by assumption) (by assumption) (by assumption) (by assumption) (by assumption) (by assumption) (by assumption) (by assumption) (by assumption) (by assumption) (by assumption) (by assumption) (by assumption) (by assumption) (by assumption) (by assumption) (by assumption) (by assumption) (by assumption) (by assumption) (by assumption) (by assumption) (by assumption))
  refine (refThere n _).mono ?_
  rintro e w' ⟨rfl, rfl⟩
  go_wp2_with fail
  go_ret2
  exact ⟨by rw [hL.out]; simp, rfl⟩

set_option maxHeartbeats 400000 in
theorem refKind (n : Nat) (hn : n < 256) (k : Nat) (hk : k ≤ 9223372036854775807) (w : World) :
    Calls Tryz.prog 109 #[.int .u8 n, .int .i64 k] w fun e w' => e = .returned (.int .u8 ((kindL n k).toNat : Int)) ∧ w = w' := by
  have hf := form_short n
  by_cases h1 : k < (formL n).length
  · have HK := Lib.hid (show ((⟨(formL n).toArray⟩ : ByteArray)[k]'(by simpa [ByteArray.size] using h1)).toNat = (kindL n k).toNat by
      unfold kindL; rw [if_pos h1, List.getD_eq_getElem?_getD, List.getElem?_eq_getElem h1]; rfl)
    go_enter Tryz.func109, Tryz.ntmps109
    go_wp2_with fail
    refine (refForm n hn _).mono ?_
    rintro e w' ⟨rfl, rfl⟩
    go_wp2_with fail
    go_ret
    exact ⟨ret1 (vint (by rw [← HK.out])), rfl⟩
  · by_cases h2 : (k - (formL n).length) % 3 = 2
    · have HK := Lib.hid (show kindL n k = 74 by unfold kindL; rw [if_neg h1, if_pos h2])
      have d2 : (((k : Int) - ((formL n).length : Int)) % 3 == 2) = true := by simp; omega
      clear h2
      go_enter Tryz.func109, Tryz.ntmps109
      go_wp2_with fail
      refine (refForm n hn _).mono ?_
      rintro e w' ⟨rfl, rfl⟩
      go_wp2_with fail
      go_ret
      exact ⟨by rw [HK.out]; rfl, rfl⟩
    · have HK := Lib.hid (show kindL n k = 87 by unfold kindL; rw [if_neg h1, if_neg h2])
      have d2 : (((k : Int) - ((formL n).length : Int)) % 3 == 2) = false := by simp; omega
      clear h2
      go_enter Tryz.func109, Tryz.ntmps109
      go_wp2_with fail
      refine (refForm n hn _).mono ?_
      rintro e w' ⟨rfl, rfl⟩
      go_wp2_with fail
      go_ret
      exact ⟨by rw [HK.out]; rfl, rfl⟩

set_option maxHeartbeats 400000 in
theorem refMay (c : UInt8) (hc : letter c) (x : Int) (w : World) :
    Calls Tryz.prog 108 #[.int .u8 (c.toNat : Int), .int .i64 x] w fun e w' => e = .returned (.bool (inK c x)) ∧ w = w' := by
  rcases hc with rfl | rfl | rfl
  · by_cases h1 : 0 ≤ x
    · by_cases h2 : x ≤ 255
      all_goals
        go_enter Tryz.func108, Tryz.ntmps108
        go_wp2_with fail
        go_ret
        first | (simp [inK, lowK, highK, h1, h2]; done) | (simp [inK, lowK, highK]; omega)
    · go_enter Tryz.func108, Tryz.ntmps108
      go_wp2_with fail
      go_ret
      first | (simp [inK, lowK, highK]; done) | (simp [inK, lowK, highK]; omega)
  · by_cases h1 : 0 ≤ x
    · by_cases h2 : x ≤ 65535
      all_goals
        go_enter Tryz.func108, Tryz.ntmps108
        go_wp2_with fail
        go_ret
        first | (simp [inK, lowK, highK, h1, h2]; done) | (simp [inK, lowK, highK]; omega)
    · go_enter Tryz.func108, Tryz.ntmps108
      go_wp2_with fail
      go_ret
      first | (simp [inK, lowK, highK]; done) | (simp [inK, lowK, highK]; omega)
  · by_cases h1 : -32768 ≤ x
    · by_cases h2 : x ≤ 32767
      all_goals
        go_enter Tryz.func108, Tryz.ntmps108
        go_wp2_with fail
        go_ret
        first | (simp [inK, lowK, highK, h1, h2]; done) | (simp [inK, lowK, highK]; omega)
    · go_enter Tryz.func108, Tryz.ntmps108
      go_wp2_with fail
      go_ret
      first | (simp [inK, lowK, highK]; done) | (simp [inK, lowK, highK]; omega)
end Go.Proofs.YtpfcojnkflcnoaaGreatDoor.K16
end
section

namespace Go.Proofs.YtpfcojnkflcnoaaGreatDoor.K16
open Go.RowKit
set_option maxRecDepth 100000

set_option maxHeartbeats 400000 in
theorem refNumber (c : UInt8) (hc : letter c) (x : Int) (hx : inK c x = true) (w : World) :
    Calls Tryz.prog 110 #[.int .u8 (c.toNat : Int), .int .i64 x] w fun e w' =>
      e = .returned (.slice (some ⟨w.heap.size, 0, none⟩) (encArg c x).length (encArg c x).length) ∧ w' = w.alloc (.cells (byteVals (encArg c x)) 5) := by
  unfold inK lowK highK at hx
  simp only [Bool.and_eq_true, decide_eq_true_eq] at hx
  rcases hc with rfl | rfl | rfl
  · simp at hx
    obtain ⟨h1, h2⟩ := hx
    have e1 := ofNat_int (x % 256) (by omega) (by omega)
    have E : byteVals (encArg 66 x) = #[.int .u8 x] := by
      have : encArg 66 x = [UInt8.ofNat (x % 256).toNat] := rfl
      rw [this]
      simp only [byteVals, List.map_cons, List.map_nil, e1]
      rw [show x % 256 = x by omega]
    have E2 : (encArg 66 x).length = 1 := rfl
    rw [E, E2]
    clear E E2 e1
    go_enter Tryz.func110, Tryz.ntmps110
    go_wp2_with fail
    go_ret
    exact ⟨rfl, rfl⟩
  · simp at hx
    obtain ⟨h1, h2⟩ := hx
    have e1 := ofNat_int (x % 256) (by omega) (by omega)
    have e2 := ofNat_int (x / 256 % 256) (by omega) (by omega)
    have E : byteVals (encArg 87 x) = #[.int .u8 (x / 256 % 256), .int .u8 (x % 256)] := by
      simp only [encArg, byteVals, if_neg (show ¬ (87 : UInt8) = 66 by decide), List.map_cons, List.map_nil, e1, e2]
    have E2 : (encArg 87 x).length = 2 := rfl
    rw [E, E2]
    clear E E2 e1 e2
    have g0 : decide (x < 0) = false := by simp; omega
    go_enter Tryz.func110, Tryz.ntmps110
    go_wp2_with fail
    go_ret
    exact ⟨rfl, by rw [show x / 256 % 256 = x / 256 by omega]⟩
  · simp at hx
    obtain ⟨h1, h2⟩ := hx
    have e1 := ofNat_int (x % 256) (by omega) (by omega)
    have e2 := ofNat_int (x / 256 % 256) (by omega) (by omega)
    have E : byteVals (encArg 74 x) = #[.int .u8 (x / 256 % 256), .int .u8 (x % 256)] := by
      simp only [encArg, byteVals, if_neg (show ¬ (74 : UInt8) = 66 by decide), List.map_cons, List.map_nil, e1, e2]
    have E2 : (encArg 74 x).length = 2 := rfl
    rw [E, E2]
    clear E E2 e1 e2
    by_cases h0 : x < 0
    · have g0 : decide (x < 0) = true := by simp; omega
      go_enter Tryz.func110, Tryz.ntmps110
      go_wp2_with fail
      go_ret
      exact ⟨rfl, by rw [show x / 256 % 256 = (x + 65536) / 256 by omega, show x % 256 = (x + 65536) % 256 by omega]⟩
    · have g0 : decide (x < 0) = false := by simp; omega
      go_enter Tryz.func110, Tryz.ntmps110
      go_wp2_with fail
      go_ret
      exact ⟨rfl, by rw [show x / 256 % 256 = x / 256 by omega]⟩
end Go.Proofs.YtpfcojnkflcnoaaGreatDoor.K16
end
section

namespace Go.Proofs.YtpfcojnkflcnoaaGreatDoor.K16
open Go.RowKit
set_option maxRecDepth 100000

theorem quiet_same {P : Program} {f : FuncId} {args : Array Value} {w : World} {x : Gr} {v : Value}
    (h : Calls P f args (growN w x) fun e w' => e = .returned v ∧ growN w x = w') : Calls P f args (growN w x) fun e w'' => e = .returned v ∧ ∃ y, w'' = growN w y :=
  h.mono fun _ _ ⟨he, hb⟩ => ⟨he, x, hb.symm⟩

/-- How the document's one ends. -/
def RefEnd (w : World) (r : List UInt8 × Int) (e : Ending) (w' : World) : Prop :=
  ∃ v, e = .returned (.tuple #[v, .int .i64 r.2]) ∧ w'.ownsRow w.heap.size 5 1 v r.1.length (byteVals r.1).toList ∧ Below w.heap.size w w'
theorem RefEnd.none (w w' : World) (k : Int) (h : Below w.heap.size w w') : RefEnd w ([], k) (.returned (.tuple #[.slice none 0 0, .int .i64 k])) w' :=
  ⟨_, rfl, World.ownsRow_nil .., h⟩

set_option maxHeartbeats 400000 in
theorem refOne_none (n : Nat) (_hn : n < 256) (hT : thereB n = false) (A : Option Addr) (args : List Int) (cap : Nat) (w : World) :
    Calls Tryz.prog 46 #[.agg #[.int .u8 n, .slice A args.length cap]] w (RefEnd w (oneL n args)) := by
  have HO := Lib.hid (show oneL n args = ([], 160) by unfold oneL; simp [hT])
  go_enter Tryz.func46, Tryz.ntmps46
  go_wp2_with fail
  refine (refThere n _).mono ?_
  rintro e w' ⟨rfl, rfl⟩
  rw [hT]
  go_wp2_with fail
  go_ret2
  rw [HO.out]
  exact RefEnd.none _ _ _ ((Below.refl _ _).alloc (Nat.le_refl _) _)

set_option maxHeartbeats 800000 in
theorem refOne_few (n : Nat) (hn : n < 256) (hT : thereB n = true) (A : Option Addr) (args : List Int) (cap : Nat) (hl : args.length ≤ 17592186044416) (hR : rowsOk n args.length = false) (w : World) :
    Calls Tryz.prog 46 #[.agg #[.int .u8 n, .slice A args.length cap]] w (RefEnd w (oneL n args)) := by
  have HO := Lib.hid (show oneL n args = ([], 2) by unfold oneL; simp [hT, hR])
  have hf := form_short n
  have HC : args.length < (formL n).length ∨ ((formL n).length < args.length ∧ (n ≠ 60 ∨ (args.length - (formL n).length) % 3 ≠ 0)) := by
    unfold rowsOk at hR
    by_cases h : n = 60
    · subst h
      have h2 : (formL 60).length = 2 := rfl
      simp at hR
      omega
    · rw [if_neg h] at hR
      simp at hR
      omega
  by_cases h1 : args.length < (formL n).length
  · have g1 : decide ((args.length : Int) - ((formL n).length : Int) < 0) = true := by simp; omega
    clear HC h1
    go_enter Tryz.func46, Tryz.ntmps46
    go_wp2_with fail
    refine (refThere n _).mono ?_
    rintro e w' ⟨rfl, rfl⟩
    rw [hT]
    go_wp2_with fail
    refine (refForm n hn _).mono ?_
    rintro e w' ⟨rfl, rfl⟩
    go_wp2_with fail
    go_ret2
    rw [HO.out]
    exact RefEnd.none _ _ _ ((Below.refl _ _).alloc (Nat.le_refl _) _)
  · have g1 : decide ((args.length : Int) - ((formL n).length : Int) < 0) = false := by simp; omega
    have g2 : decide (0 < (args.length : Int) - ((formL n).length : Int)) = true := by simp; omega
    have g2' : (formL n).length < args.length := by omega
    by_cases h6 : n = 60
    · have g3 : ((n : Int) != 60) = false := by simp [h6]
      have g4 : (((args.length : Int) - ((formL n).length : Int)) % 3 != 0) = true := by
        have : (args.length - (formL n).length) % 3 ≠ 0 := by omega
        simp; omega
      clear HC h1 h6
      go_enter Tryz.func46, Tryz.ntmps46
      go_wp2_with fail
      refine (refThere n _).mono ?_
      rintro e w' ⟨rfl, rfl⟩
      rw [hT]
      go_wp2_with fail
      refine (refForm n hn _).mono ?_
      rintro e w' ⟨rfl, rfl⟩
      go_wp2_with fail
      go_ret2
      rw [HO.out]
      exact RefEnd.none _ _ _ ((Below.refl _ _).alloc (Nat.le_refl _) _)
    · have g3 : ((n : Int) != 60) = true := by simp; omega
      clear HC h1 h6
      go_enter Tryz.func46, Tryz.ntmps46
      go_wp2_with fail
      refine (refThere n _).mono ?_
      rintro e w' ⟨rfl, rfl⟩
      rw [hT]
      go_wp2_with fail
      refine (refForm n hn _).mono ?_
      rintro e w' ⟨rfl, rfl⟩
      go_wp2_with fail
      go_ret2
      rw [HO.out]
      exact RefEnd.none _ _ _ ((Below.refl _ _).alloc (Nat.le_refl _) _)
end Go.Proofs.YtpfcojnkflcnoaaGreatDoor.K16
end
section

namespace Go.Proofs.YtpfcojnkflcnoaaGreatDoor.K16
open Go.RowKit
set_option maxRecDepth 100000

/-- What holds at each round's head: the box of the instruction, its numbers; nothing old has turned. -/
structure RefInv (w : World) (n : Nat) (A : Option Addr) (args : List Int) (cap : Nat) (wr : World) : Prop where
  op : wr.cell? ⟨w.heap.size, 0, none⟩ = some (.int .u8 n)
  row : wr.cell? ⟨w.heap.size, 1, none⟩ = some (.slice A args.length cap)
  ints : Ints w A args
  old : Below w.heap.size w wr
  size : w.heap.size < wr.heap.size
theorem RefInv.later {w wr wx : World} {n : Nat} {A : Option Addr} {args : List Int} {cap : Nat} (h : RefInv w n A args cap wr) (hb : Below wr.heap.size wr wx) : RefInv w n A args cap wx :=
  ⟨(hb.cell (p := ⟨w.heap.size, 0, none⟩) h.size).trans h.op, (hb.cell (p := ⟨w.heap.size, 1, none⟩) h.size).trans h.row, h.ints, h.old.trans (hb.mono (Nat.le_of_lt h.size)), Nat.lt_of_lt_of_le h.size hb.size⟩
theorem RefInv.start (w : World) (n : Nat) (A : Option Addr) (args : List Int) (cap : Nat) (hA : Ints w A args) : RefInv w n A args cap (w.alloc (.cells #[.int .u8 n, .slice A args.length cap] 34)) :=
  ⟨by unfold World.cell?; rw [heap_alloc_new]; rfl, by unfold World.cell?; rw [heap_alloc_new]; rfl, hA, (Below.refl _ _).alloc (Nat.le_refl _) _, by simp⟩

/-- .. behind an append onto memory of the call's own. -/
theorem RefInv.grown {w wr w7 : World} {n : Nat} {A : Option Addr} {args : List Int} {cap : Nat} {v : Value} {m : Nat} {xs : List Value} (h : RefInv w n A args cap wr) (hown : wr.ownsRow (w.heap.size + 1) 5 1 v m xs) (hg : wr.grownBy w7 v.ownBlock) : RefInv w n A args cap w7 := by
  have hne : v.ownBlock ≠ some w.heap.size := fun e => by have := (hown.lt _ e).1; omega
  have hb : w7.heap[w.heap.size]? = wr.heap[w.heap.size]? := hg.block _ h.size (fun e => hne e.symm)
  have hold : Below w.heap.size w w7 := h.old.grown hg (Nat.le_of_lt h.size) (fun b hb => by have := (hown.lt _ hb).1; omega)
  refine ⟨(World.cell?_of_block (w := wr) hb).trans h.op, (World.cell?_of_block (w := wr) hb).trans h.row, h.ints, hold, ?_⟩
  have := h.op
  rw [← World.cell?_of_block (w := wr) (w' := w7) hb] at this
  unfold World.cell? at this
  split at this
  · rename_i he; exact lt_of_get he
  · cases this
theorem ok_at (n : Nat) (args : List Int) (h : okTo n args args.length = true) (k : Nat) (hk : k < args.length) : inK ((lettersOf n args.length).getD k 0) (args.getD k 0) = true := by
  unfold okTo at h
  exact List.all_eq_true.1 h k (List.mem_range.2 hk)

theorem refMayAs (d : Bool) (c : UInt8) (hc : letter c) (x : Int) (hd : inK c x = d) (w : World) :
    Calls Tryz.prog 108 #[.int .u8 (c.toNat : Int), .int .i64 x] w fun e w' => e = .returned (.bool d) ∧ w = w' := by
  subst hd; exact refMay c hc x w

set_option maxHeartbeats 4000000 in
theorem refOne_main (n : Nat) (hn : n < 256) (hT : thereB n = true) (A : Option Addr) (args : List Int) (cap : Nat) (hl : args.length ≤ 17592186044416) (hR : rowsOk n args.length = true) (w : World) (hA : Ints w A args) :
    Calls Tryz.prog 46 #[.agg #[.int .u8 n, .slice A args.length cap]] w (RefEnd w (oneL n args)) := by
  have hf := form_short n
  have HL := Lib.hid (fun k hk => kind_letters n args.length k hR hk)
  have hLen := Lib.hid (letters_length n args.length hR)
  have hBad := Lib.hid (fun k => one_bad n args k hT hR)
  have hLong := Lib.hid (fun h => one_long n args hT hR h)
  have hGood := Lib.hid (fun h => one_good n args hT hR h)
  have hmore : (args.length : Int) - ((formL n).length : Int) = 3 * (rowsOf n args.length : Int) ∧ (formL n).length ≤ args.length := by
    unfold rowsOk at hR
    unfold rowsOf
    by_cases h : n = 60
    · subst h
      have h2 : (formL 60).length = 2 := rfl
      simp at hR
      rw [if_pos rfl, h2]
      omega
    · rw [if_neg h] at hR ⊢
      simp at hR
      omega
  obtain ⟨hm1, hm2⟩ := hmore
  have g1 : decide ((args.length : Int) - ((formL n).length : Int) < 0) = false := by simp; omega
  have HI := Lib.hid (RefInv.start w n A args cap hA)
  have HGO : decide ((formL n).length < args.length) = false ∨ ((formL n).length < args.length ∧ ((n : Int) != 60) = false ∧ (((args.length : Int) - ((formL n).length : Int)) % 3 != 0) = false) := by
    by_cases h : (formL n).length < args.length
    · refine .inr ⟨h, ?_, by rw [hm1]; simp⟩
      by_cases h6 : n = 60
      · simp [h6]
      · have : rowsOf n args.length = 0 := by unfold rowsOf; rw [if_neg h6]
        omega
    · exact .inl (by simp; omega)
  have HR := Lib.hid hR
  clear hR hA
  go_enter Tryz.func46, Tryz.ntmps46
  go_wp2_with fail
  refine (refThere n _).mono ?_
  rintro e w' ⟨rfl, rfl⟩
  rw [hT]
  go_wp2_with fail
  refine (refForm n hn _).mono ?_
  rintro e w' ⟨rfl, rfl⟩
  generalize w.alloc (.cells #[.int .u8 n, .slice A args.length cap] 34) = w0 at *
  have p0 := HI.out.op
  have p1 := HI.out.row
  have p2 := HI.out.size
  go_upto_region 5 with (fail)
  go_cut [41] (fun b wx => b = .bool false ∧ wx = w0)
  case first =>
    rcases HGO with h | ⟨h1, h2, h3⟩
    · have h' : ¬ (formL n).length < args.length := by simpa using h
      go_wp2_with fail
      go_meet
      exact ⟨rfl, rfl⟩
    · go_wp2_with fail
      go_meet
      exact ⟨rfl, rfl⟩
  case rest =>
    obtain ⟨rfl, rfl⟩ := hcut
    clear HGO p0 p1 p2 g1
    go_wp2_with fail
    go_loopg [7] (args.length) (fun g i wr => ∃ k : Nat, k + g = args.length ∧ i = .int .i64 k ∧ okTo n args k = true ∧ RefInv w n A args cap wr)
    case atStart => exact ⟨0, by omega, rfl, rfl, HI.out⟩
    case round =>
      clear HI
      obtain ⟨k, hk, rfl, hok, hI⟩ := hrel
      have HOK := Lib.hid hok
      have HI := Lib.hid hI
      have q0 := hI.op
      have q1 := hI.row
      have q2 := hI.size
      by_cases hlt : k < args.length
      · obtain ⟨b1, o1, rfl, l1, q3⟩ := (hI.ints.later hI.old (Nat.le_refl _)).at_ hlt
        have hkI : (k : Int) < (args.length : Int) := by omega
        have HK := Lib.hid (HL.out k hlt)
        have HC := Lib.hid (kind_letter n k)
        clear hI hok
        generalize hx : args.getD k 0 = x at *
        have HX := Lib.hid hx
        clear hx
        generalize hb : inK (kindL n k) x = bb
        have HB := Lib.hid hb
        clear hb
        go_wp2_with fail
        refine wp_region_grow (by kernel_rfl) (by kernel_rfl) ?_
        repeat (first | go_big_quiet_step (first | (refine quiet_same (refKind n hn k (by omega) _)) | (refine quiet_same (refMayAs _ (kindL n k) HC.out x HB.out _))))
        refine wpQuiet_nil ?_
        rintro _ ⟨gx, rfl⟩
        have hq := growN_below wr gx
        generalize growN wr gx = wq at *
        cases bb
        case true =>
          go_wp2_with fail
          go_roundg (gk - 1)
          case measure => omega
          case rel =>
            refine ⟨k + 1, by omega, by go_num, ?_, HI.out.later hq⟩
            rw [okTo_succ, HOK.out, HK.out, HX.out, HB.out]; rfl
        case false =>
          go_wp2_with fail
          go_ret2
          rw [hBad.out k hlt (by rw [HK.out, HX.out, HB.out])]
          exact RefEnd.none _ _ _ (HI.out.later hq).old
      · obtain rfl : k = args.length := by omega
        by_cases hr : 256 ≤ rowsOf n args.length
        · have g5 : decide ((255 : Int) < 3 * (rowsOf n args.length : Int) / 3) = true := by simp; omega
          have HR5 := Lib.hid hr
          go_wp2_with fail
          go_ret2
          rw [hLong.out HOK.out HR5.out]
          exact RefEnd.none _ _ _ HI.out.old
        · have g5 : decide ((255 : Int) < 3 * (rowsOf n args.length : Int) / 3) = false := by simp; omega
          have HG := Lib.hid (hGood.out HOK.out (by omega))
          have hfew := few_args n args.length HR.out (by omega)
          clear hI hok
          go_wp2_with fail
          go_loopg [8, 9] (args.length) (fun g v i wx => ∃ k : Nat, k + g = args.length ∧ i = .int .i64 k ∧ RefInv w n A args cap wx ∧ wx.ownsRow (w.heap.size + 1) 5 1 v (encTo n args k).length (byteVals (encTo n args k)).toList)
          case atStart =>
            refine ⟨0, by omega, rfl, HI.out.later ((Below.refl _ _).alloc (Nat.le_refl _) _), ?_⟩
            have e0 : (UInt8.ofNat n).toNat = n := by rw [show (UInt8.ofNat n).toNat = n % 256 from UInt8.toNat_ofNat]; omega
            refine ⟨by simp [encTo, byteVals], .inr ⟨_, 1, _, rfl, HI.out.size, heap_alloc_new _ _, Nat.le_refl _, by decide, rfl, ?_⟩⟩
            simp [encTo, byteVals, e0]
          case round =>
            clear HI q0 q1 q2
            obtain ⟨k, hk, rfl, hI, hown⟩ := hrel
            have HI := Lib.hid hI
            have HO := Lib.hid hown
            have q0 := hI.op
            have q1 := hI.row
            have q2 := hI.size
            by_cases hlt : k < args.length
            · obtain ⟨b1, o1, rfl, l1, q3w⟩ := hI.ints.at_ hlt
              have q3 := (hI.old.cell (p := ⟨b1, o1 + k, none⟩) l1).trans q3w
              have hkI : (k : Int) < (args.length : Int) := by omega
              have HK := Lib.hid (HL.out k hlt)
              have HC := Lib.hid (kind_letter n k)
              have HIN := Lib.hid (ok_at n args HOK.out k hlt)
              rw [HK.out] at HIN
              have HE1 := Lib.hid (fun h => encTo_case n args k h)
              have HE2 := Lib.hid (fun h => encTo_step n args k h)
              rw [HK.out] at HE1 HE2
              have hes := encTo_short n args k
              have hel := encArg_short (kindL n k) (args.getD k 0)
              have heq := encArg_len (kindL n k) (args.getD k 0)
              obtain ⟨i0, hi0, hz0, hz1, hz2⟩ := info_parts byte_info
              clear hI hown
              generalize hx : args.getD k 0 = x at *
              have HX := Lib.hid hx
              clear hx
              have hpos : 0 < (encArg (kindL n k) x).length := by rw [heq]; unfold sizeN; split <;> omega
              clear heq
              have hmax : (encTo n args k).length + (encArg (kindL n k) x).length ≤ maxLen := by unfold maxLen; omega
              have hbytes : ((encTo n args k).length + (encArg (kindL n k) x).length) * 1 ≤ 140737488355328 := by omega
              have Q3 := Lib.hid q3w
              clear q3w
              go_upto_region 18 with (fail)
              go_cut [8] (fun v wx => RefInv w n (some ⟨b1, o1, none⟩) args cap wx ∧ wx.ownsRow (w.heap.size + 1) 5 1 v ((encTo n args k).length + (encArg (kindL n k) x).length) ((byteVals (encTo n args k)).toList ++ (byteVals (encArg (kindL n k) x)).toList))
              case first =>
                have HI2 := Lib.hid (HI.out.later (drew_below wr))
                have HO2 := Lib.hid (own_later HO.out (drew_below wr))
                go_region_held3 (fun w' => w'.cell? ⟨w.heap.size, 0, none⟩ = some (.int .u8 n) ∧ w'.cell? ⟨w.heap.size, 1, none⟩ = some (.slice (some ⟨b1, o1, none⟩) args.length cap) ∧ w'.cell? ⟨b1, o1 + k, none⟩ = some (.int .i64 x)) (go_keep) (first
                  | (go_at_call 109
                     refine (refKind n hn k (by omega) _).mono ?_
                     rintro e w6 ⟨rfl, rfl⟩)
                  | (go_at_call 110
                     refine (refNumber (kindL n k) HC.out x HIN.out _).mono ?_
                     rintro e w7 ⟨rfl, rfl⟩)
                  | (refine step_app etBytes (by rfl) _ _ (by rfl) (w.heap.size + 1) _ (encTo n args k).length (byteVals (encTo n args k)).toList (by rfl) (HO2.out.alloc _) _ (encArg (kindL n k) x).length (byteVals (encArg (kindL n k) x)).toList (by rfl) (src_new etBytes wr.drew (byteVals (encArg (kindL n k) x)) 5 _ _ (byteVals_size _) (byteVals_one _)) hbytes hmax (by simp; omega) ?_
                     intro v8 w8 hA8
                     have A8 := Lib.hid (RefInv.grown (HI2.out.later ((Below.refl _ _).alloc (Nat.le_refl _) _)) (HO2.out.alloc _) hA8.grown)
                     have O8 := Lib.hid hA8.own
                     have s0 := A8.out.op
                     have s1 := A8.out.row
                     have s2 := (A8.out.old.cell (p := ⟨b1, o1 + k, none⟩) l1).trans Q3.out
                     clear hA8))
                all_goals (go_wp2_with fail; go_meet; exact ⟨A8.out, O8.out⟩)
              case rest =>
                obtain ⟨hI, hown⟩ := hcut
                have HI := Lib.hid hI
                have HO := Lib.hid hown
                have q0 := hI.op
                have q2 := hI.size
                clear hI hown q1
                by_cases h60 : n = 60 ∧ k = 0
                · have b1' : ((n : Int) == 60) = true := by simp; omega
                  have b2' : ((k : Int) == 0) = true := by simp; omega
                  have HE := Lib.hid (HE1.out h60)
                  clear h60 HE1 HE2
                  have hrw : rowsOf n args.length < 256 := by omega
                  have HBV := Lib.hid (show (byteVals [UInt8.ofNat (rowsOf n args.length)]) = #[.int .u8 (rowsOf n args.length : Int)] by
                    simp only [byteVals, List.map_cons, List.map_nil]; rw [show (UInt8.ofNat (rowsOf n args.length)).toNat = rowsOf n args.length % 256 from UInt8.toNat_ofNat, Nat.mod_eq_of_lt hrw])
                  go_wp2_with (at_builtin; refine wpList_app etBytes rfl _ _ rfl (w.heap.size + 1) u8 _ _ rfl (HO.out.alloc _) _ 1 [.int .u8 (rowsOf n args.length : Int)] rfl (src_new etBytes wc #[.int .u8 (rowsOf n args.length : Int)] 5 1 1 rfl (by simp [Value.oneCell'])) (by omega) (by unfold maxLen; omega) (by simp; omega) ?_; intro v9 w9 hA9)
                  have A9 := Lib.hid (RefInv.grown (HI.out.later ((Below.refl _ _).alloc (Nat.le_refl _) _)) (HO.out.alloc _) hA9.grown)
                  have O9 := Lib.hid hA9.own
                  clear hA9
                  go_wp2_with fail
                  go_roundg (gk - 1)
                  case measure => omega
                  case rel =>
                    refine ⟨k + 1, by omega, by go_num, A9.out, ?_⟩
                    have := O9.out
                    rw [HE.out, byteVals_append, byteVals_append, HBV.out]
                    simpa [Nat.add_assoc] using this
                · have b2' : (((n : Int) == 60) = true ∧ ((k : Int) == 0) = false) ∨ ((n : Int) == 60) = false := by
                    by_cases h : n = 60
                    · left; refine ⟨by simp [h], ?_⟩; have : k ≠ 0 := fun h0 => h60 ⟨h, h0⟩; simp; omega
                    · right; simp; omega
                  have HE := Lib.hid (HE2.out h60)
                  clear h60 HE1 HE2
                  rcases b2' with ⟨b1', b2'⟩ | b1'
                  all_goals
                    go_wp2_with fail
                    go_roundg (gk - 1)
                    case measure => omega
                    case rel =>
                      refine ⟨k + 1, by omega, by go_num, HI.out, ?_⟩
                      have := HO.out
                      rw [HE.out, byteVals_append]
                      simpa using this
            · obtain rfl : k = args.length := by omega
              go_wp2_with fail
              go_ret2
              rw [HG.out]
              exact ⟨_, rfl, own_lower HO.out (by omega), HI.out.old⟩

theorem refOne_any (n : Nat) (hn : n < 256) (A : Option Addr) (args : List Int) (cap : Nat) (hl : args.length ≤ 17592186044416) (w : World) (hA : Ints w A args) :
    Calls Tryz.prog 46 #[.agg #[.int .u8 n, .slice A args.length cap]] w (RefEnd w (oneL n args)) := by
  by_cases hT : thereB n = true
  · by_cases hR : rowsOk n args.length = true
    · exact refOne_main n hn hT A args cap hl hR w hA
    · exact refOne_few n hn hT A args cap hl (by simpa using hR) w
  · exact refOne_none n hn (by simpa using hT) A args cap w
end Go.Proofs.YtpfcojnkflcnoaaGreatDoor.K16
end
section

namespace Go.Proofs.YtpfcojnkflcnoaaGreatDoor.K16
open Go.RowKit
set_option maxRecDepth 100000

/-- Two lists agree at each of their first places. -/
theorem eq_of_getD {α : Type} [DecidableEq α] (d : α) (a b : List α) (hl : a.length = b.length) (h : ∀ j, j < a.length → a.getD j d = b.getD j d) : a = b := by
  apply List.ext_getElem hl
  intro j h1 h2
  have := h j h1
  rw [List.getD_eq_getElem?_getD, List.getD_eq_getElem?_getD, List.getElem?_eq_getElem h1, List.getElem?_eq_getElem h2] at this
  simpa using this

theorem boxes2 {w : World} {x y x' y' : Value} {t : TypeId} : (∀ o, ((w.alloc (.cells #[x, y] t)).alloc (.cells #[x', y'] t)).cell? ⟨w.heap.size, o, none⟩ = #[x, y][o]?) := by
  intro o
  rw [World.cell?_alloc_lt _ _ _ (by simp)]
  unfold World.cell?
  rw [heap_alloc_new]
  rfl

end Go.Proofs.YtpfcojnkflcnoaaGreatDoor.K16
end
section

namespace Go.Proofs.YtpfcojnkflcnoaaGreatDoor.K16
open Go.RowKit
set_option maxRecDepth 100000

set_option maxHeartbeats 1000000 in
theorem refEncode_any (L : Option Addr) (l : List InsL) (cap : Nat) (hl : l.length ≤ 1073741824) (w : World) (hL : Inss w L l) :
    Calls Tryz.prog 25 #[.slice L l.length cap] w (OneEnd w (encodeL l)) := by
  go_enter Tryz.func25, Tryz.ntmps25
  go_wp2_with fail
  go_loopg [4, 5] (l.length) (fun g v i wr => ∃ k : Nat, k + g = l.length ∧ i = .int .i64 k ∧ errOf (l.take k) = 0 ∧ wr.ownsRow w.heap.size 5 1 v (bytesOf (l.take k)).length (byteVals (bytesOf (l.take k))).toList ∧ Below w.heap.size w wr)
  case atStart => exact ⟨0, by omega, rfl, rfl, World.ownsRow_nil .., Below.refl _ _⟩
  case round =>
    obtain ⟨k, hk, rfl, herr, hown, hb⟩ := hrel
    have HE := Lib.hid herr
    have HO := Lib.hid hown
    clear herr hown
    by_cases hlt : k < l.length
    · obtain ⟨b, off, rfl, hbw, hI⟩ := hL.at_ hlt
      obtain ⟨A, cap2, c0, c1, hA, hn, hlen⟩ := hI.later hb (Nat.le_refl _) hbw
      clear hI
      have hbr : b < wr.heap.size := by have := hb.size; omega
      have HN1 := Lib.hid (errOf_at l k hlt HE.out)
      have HN2 := Lib.hid (errOf_next l k hlt HE.out)
      have HN3 := Lib.hid (bytesOf_snoc l k hlt)
      generalize l.getD k (0, []) = i at *
      obtain ⟨n, args⟩ := i
      simp only at c0 c1 hA hn hlen
      have hkI : (k : Int) < (l.length : Int) := by omega
      have hAr := Lib.hid hA
      clear hA hL
      have hos := oneL_short n args
      have hbs := bytesOf_short (l.take k)
      have htk : (l.take k).length ≤ k := List.length_take_le _ _
      go_wp2_with fail
      refine (refOne_any n hn A args cap2 hlen _ hAr.out).mono ?_
      rintro e w5 ⟨v5, rfl, hown5, hb5⟩
      have HO5 := Lib.hid hown5
      have hb6 := hb.trans (hb5.mono hb.size)
      have HOB := Lib.hid (own_later HO.out hb5)
      have hws : w.heap.size ≤ w5.heap.size := hb6.size
      clear HO hb5 hAr c0 c1 hown5
      generalize oneL n args = r at *
      obtain ⟨rb, re⟩ := r
      simp only at hos HN1 HN2 HN3 HO5 ⊢
      by_cases hre : re = 0
      · have e1 : (re != 0) = false := by simp [hre]
        have HN2 := Lib.hid (HN2.out hre)
        clear HN1 hre
        go_wp2_with (at_builtin; refine wpList_app etBytes rfl _ _ rfl w.heap.size _ _ _ rfl HOB.out _ rb.length _ rfl (src_own etBytes HO5.out (byteVals_one _)) (by omega) (by unfold maxLen; omega) hws ?_; intro v9 w9 hA9)
        have H9 := Lib.hid (hA9.below hb6 hws HOB.out (Nat.le_refl _))
        have O9 := Lib.hid hA9.own
        clear hA9
        go_wp2_with fail
        go_roundg (gk - 1)
        case measure => omega
        case rel =>
          refine ⟨k + 1, by omega, by go_num, HN2.out, ?_, H9.out⟩
          rw [HN3.out, byteVals_append, List.length_append]
          exact O9.out
      · have e1 : (re != 0) = true := by simp [hre]
        have HN1 := Lib.hid (HN1.out hre)
        have HRE := Lib.hid hre
        clear HN2 HN3 hre
        go_wp2_with fail
        go_ret2
        refine ⟨?_, hb6⟩
        unfold encodeL
        rw [HN1.out, if_pos HRE.out]
        rfl
    · obtain rfl : k = l.length := by omega
      have hbs := bytesOf_short l
      have HT := Lib.hid (show l.take l.length = l by simp)
      rw [HT.out] at HE HO
      obtain ⟨A, c, rfl⟩ := own_slice' HO.out
      have hconv := conv_own HO.out
      by_cases hlong : 65535 < (bytesOf l).length
      · have HL := Lib.hid hlong
        go_wp2_with fail
        go_ret2
        refine ⟨?_, hb⟩
        unfold encodeL
        rw [HE.out, if_neg (by simp), if_pos HL.out]
        rfl
      · have HL := Lib.hid hlong
        go_wp2_with fail
        go_ret2
        refine ⟨?_, hb⟩
        unfold encodeL
        rw [HE.out, if_neg (by simp), if_neg HL.out]
        rfl

/-- slices.Equal at two rows of ints. -/
theorem equalInts (A B : Option Addr) (a b : List Int) (ca cb : Nat) (ha : a.length ≤ 17592186044416) (hb : b.length ≤ 17592186044416) (w : World) (hA : Ints w A a) (hB : Ints w B b) :
    Calls Tryz.prog 97 #[.slice A a.length ca, .slice B b.length cb] w fun e w' => e = .returned (.bool (decide (a = b))) ∧ ∃ q, w' = w.drewN q := by
  by_cases hl : a.length = b.length
  · by_cases h0 : a.length = 0
    · have e1 : a = [] := List.eq_nil_of_length_eq_zero h0
      have e2 : b = [] := List.eq_nil_of_length_eq_zero (by omega)
      subst e1 e2
      refine (Tryz.slices_Equal_int_empty A B ca 0 cb w (by omega)).mono ?_
      rintro e w' ⟨rfl, rfl⟩
      exact ⟨by simp, 0, rfl⟩
    · rcases hA with rfl | ⟨b1, o1, rfl, _, c1⟩
      · simp at h0
      rcases hB with rfl | ⟨b2, o2, rfl, _, c2⟩
      · exact absurd hl h0
      refine (Tryz.slices_Equal_int b1 o1 a.length ca b2 o2 b.length cb a b w (Nat.le_refl _) (Nat.le_refl _) (by omega) (by omega) c1 c2).mono ?_
      rintro e w' ⟨rfl, hq⟩
      refine ⟨?_, hq⟩
      simp only [List.take_length]
      exact ret1 (vbool (by rw [Bool.eq_iff_iff]; simp))
  · refine (Tryz.slices_Equal_int_lens A B a.length ca b.length cb w hl).mono ?_
    rintro e w' ⟨rfl, rfl⟩
    exact ⟨ret1 (vbool (decide_eq_false fun h => hl (by rw [h])).symm), 0, rfl⟩

end Go.Proofs.YtpfcojnkflcnoaaGreatDoor.K16
end
/- One, ins, ends of layer 20's laws. Condition: what lies in memory can lie there; tables of the library's lie there. -/
namespace Go.Proofs.YtpfcojnkflcnoaaGreatDoor
open Go.RowKit
set_option maxRecDepth 100000
attribute [local go_sem ↓] Go.wp_at_zero Go.wp_at_succ

def InsEnd (n : Nat) (A : Option Addr) (k c : Nat) (w : World) (e : Ending) (w' : World) : Prop := e = .returned (.agg #[.int .u8 n, .slice A k c]) ∧ Below w.heap.size w w'
theorem ins_any (n : Nat) (A : Option Addr) (k c : Nat) (w : World) : Calls Tryz.prog 11 #[.int .u8 n, .slice A k c] w (InsEnd n A k c w) := by
  go_enter Tryz.func11, Tryz.ntmps11
  go_wp2_with fail
  refine bodyPost_ret (v := .agg #[.int .u8 n, .slice A k c]) ?_ rfl ⟨rfl, alloc_below _ _⟩
  simp [results, Tryz.results11, go_sem]
theorem prog_order {w : World} {g : Nat} (h : Bx g #[.int .i64 0] 3 w) : Ints w (some ⟨g, 0, none⟩) [0] :=
  .inr ⟨g, 0, rfl, h.lt, fun j hj => by
    obtain rfl : j = 0 := by simpa using hj
    exact (h.cell 0).trans rfl⟩
theorem prog_mods {w : World} {g k : Nat} {code : List UInt8} (h1 : Bx g #[.int .i64 0, .int .i64 0, .int .i64 0, .int .i64 8, .int .i64 1, .bool false] 69 w) (h2 : Bx k #[.string ⟨code.toArray⟩, .slice (some ⟨g, 0, none⟩) 1 1, .slice none 0 0, .int .i64 4, .slice none 0 0] 73 w) (hc : code.length ≤ 65535) :
    Mods w (some ⟨k, 0, none⟩) [oneM code] :=
  .inr ⟨k, 0, rfl, h2.lt, fun j hj => by
    obtain rfl : j = 0 := by simpa using hj
    refine ⟨⟨some ⟨g, 0, none⟩, 1, none, 0, none, 0⟩, ⟨.inr ⟨g, 0, rfl, h1.lt, fun j hj => ?_⟩, .inl rfl, .inl rfl, by simp [oneM]; omega, by simp [oneM], by simp [oneM], by simp [oneM]⟩, (h2.cell 0).trans rfl, (h2.cell 1).trans rfl, (h2.cell 2).trans rfl, (h2.cell 3).trans rfl, (h2.cell 4).trans rfl⟩
    obtain rfl : j = 0 := by simpa [oneM] using hj
    exact ⟨(h1.cell 0).trans rfl, (h1.cell 1).trans rfl, (h1.cell 2).trans rfl, (h1.cell 3).trans rfl, (h1.cell 4).trans rfl, (h1.cell 5).trans rfl⟩⟩
def ProgEnd (code : List UInt8) (w : World) (e : Ending) (w' : World) : Prop := ∃ A2 A3 c2 c3, e = .returned (.agg #[.slice A2 1 c2, .slice A3 1 c3]) ∧ Mods w' A2 [oneM code] ∧ Ints w' A3 [0] ∧ Below w.heap.size w w'
set_option maxHeartbeats 1000000 in
theorem one_any (L : Option Addr) (l : List K16.InsL) (cap : Nat) (hl : l.length ≤ 1000) (he : (K16.encodeL l).2 = 0) (hc : (K16.encodeL l).1.length ≤ 65535) (w : World) (hL : K16.Inss w L l) :
    Calls Tryz.prog 10 #[.slice L l.length cap] w (ProgEnd (K16.encodeL l).1 w) := by
  have HL := Lib.hid hL
  have HE := Lib.hid he
  have HC := Lib.hid hc
  clear hL he hc
  go_enter Tryz.func10, Tryz.ntmps10
  go_wp2_with fail
  have HX0 := Lib.hid (Bx.new w #[.slice none 0 0, .slice none 0 0] 31)
  have HB0 := Lib.hid (alloc_below w (.cells #[.slice none 0 0, .slice none 0 0] 31))
  refine (K16.refEncode_any L l cap (by omega) _ (HL.out.later (alloc_below _ _) (Nat.le_refl _))).mono ?_
  rintro e w1 ⟨rfl, hb1⟩
  have HX1 := Lib.hid (HX0.out.grow hb1)
  have HB1 := Lib.hid (HB0.out.trans (hb1.mono HB0.out.size))
  generalize K16.encodeL l = r at *
  obtain ⟨code, er⟩ := r
  simp only at HC
  have x0 : w1.cell? ⟨w.heap.size, 0, none⟩ = some (.slice none 0 0) := (HX1.out.cell 0).trans rfl
  have x1 : w1.cell? ⟨w.heap.size, 1, none⟩ = some (.slice none 0 0) := (HX1.out.cell 1).trans rfl
  have xf := HX1.out.frozen
  have xl := HX1.out.lt
  clear hb1 HX0 HB0 HL
  have hm1 : w.heap.size < w1.heap.size + 1 := by omega
  have hm2 : w.heap.size < w1.heap.size + 1 + 1 := by omega
  have hm3 : w.heap.size ≤ w1.heap.size := by omega
  have hm4 : w.heap.size ≤ w1.heap.size + 1 := by omega
  go_wp2_with fail
  have hs2 : ((w1.setCell ⟨w.heap.size, 0, none⟩ (.slice (some ⟨w1.heap.size + 1, 0, none⟩) 1 1)).setCell ⟨w.heap.size, 1, none⟩ (.slice (some ⟨w1.heap.size + 1 + 1, 0, none⟩) 1 1)).heap.size = w1.heap.size := by simp
  have HX2 := Lib.hid ((HX1.out.set 0 (.slice (some ⟨w1.heap.size + 1, 0, none⟩) 1 1)).set 1 (.slice (some ⟨w1.heap.size + 1 + 1, 0, none⟩) 1 1))
  have HB2 := Lib.hid ((HB1.out.setCell (p := ⟨w.heap.size, 0, none⟩) (Nat.le_refl _) (.slice (some ⟨w1.heap.size + 1, 0, none⟩) 1 1)).setCell (p := ⟨w.heap.size, 1, none⟩) (Nat.le_refl _) (.slice (some ⟨w1.heap.size + 1 + 1, 0, none⟩) 1 1))
  generalize (w1.setCell ⟨w.heap.size, 0, none⟩ (.slice (some ⟨w1.heap.size + 1, 0, none⟩) 1 1)).setCell ⟨w.heap.size, 1, none⟩ (.slice (some ⟨w1.heap.size + 1 + 1, 0, none⟩) 1 1) = w2 at *
  rw [← hs2] at HX2 ⊢
  have HP1 := Lib.hid (Bx.new w2 #[.int .i64 0, .int .i64 0, .int .i64 0, .int .i64 8, .int .i64 1, .bool false] 69)
  have HA1 := Lib.hid (alloc_below w2 (.cells #[.int .i64 0, .int .i64 0, .int .i64 0, .int .i64 8, .int .i64 1, .bool false] 69))
  have HP2 := Lib.hid (show Bx (w2.heap.size + 1) #[.string ⟨code.toArray⟩, .slice (some ⟨w2.heap.size, 0, none⟩) 1 1, .slice none 0 0, .int .i64 4, .slice none 0 0] 73 ((w2.alloc (.cells #[.int .i64 0, .int .i64 0, .int .i64 0, .int .i64 8, .int .i64 1, .bool false] 69)).alloc (.cells #[.string ⟨code.toArray⟩, .slice (some ⟨w2.heap.size, 0, none⟩) 1 1, .slice none 0 0, .int .i64 4, .slice none 0 0] 73)) by simpa using Bx.new (w2.alloc (.cells #[.int .i64 0, .int .i64 0, .int .i64 0, .int .i64 8, .int .i64 1, .bool false] 69)) #[.string ⟨code.toArray⟩, .slice (some ⟨w2.heap.size, 0, none⟩) 1 1, .slice none 0 0, .int .i64 4, .slice none 0 0] 73)
  have HA2 := Lib.hid (alloc_below (w2.alloc (.cells #[.int .i64 0, .int .i64 0, .int .i64 0, .int .i64 8, .int .i64 1, .bool false] 69)) (.cells #[.string ⟨code.toArray⟩, .slice (some ⟨w2.heap.size, 0, none⟩) 1 1, .slice none 0 0, .int .i64 4, .slice none 0 0] 73))
  have HP3 := Lib.hid (show Bx (w2.heap.size + 1 + 1) #[.int .i64 0] 3 (((w2.alloc (.cells #[.int .i64 0, .int .i64 0, .int .i64 0, .int .i64 8, .int .i64 1, .bool false] 69)).alloc (.cells #[.string ⟨code.toArray⟩, .slice (some ⟨w2.heap.size, 0, none⟩) 1 1, .slice none 0 0, .int .i64 4, .slice none 0 0] 73)).alloc (.cells #[.int .i64 0] 3)) by simpa using Bx.new ((w2.alloc (.cells #[.int .i64 0, .int .i64 0, .int .i64 0, .int .i64 8, .int .i64 1, .bool false] 69)).alloc (.cells #[.string ⟨code.toArray⟩, .slice (some ⟨w2.heap.size, 0, none⟩) 1 1, .slice none 0 0, .int .i64 4, .slice none 0 0] 73)) #[.int .i64 0] 3)
  have HA3 := Lib.hid (alloc_below ((w2.alloc (.cells #[.int .i64 0, .int .i64 0, .int .i64 0, .int .i64 8, .int .i64 1, .bool false] 69)).alloc (.cells #[.string ⟨code.toArray⟩, .slice (some ⟨w2.heap.size, 0, none⟩) 1 1, .slice none 0 0, .int .i64 4, .slice none 0 0] 73)) (.cells #[.int .i64 0] 3))
  have HQ1 := Lib.hid ((HP1.out.grow HA2.out).grow HA3.out)
  have HQ2 := Lib.hid (HP2.out.grow HA3.out)
  have HXe := Lib.hid (((HX2.out.grow HA1.out).grow HA2.out).grow HA3.out)
  have HBe := Lib.hid (((HB2.out.trans (HA1.out.mono HB2.out.size)).trans (HA2.out.mono (Nat.le_trans HB2.out.size HA1.out.size))).trans (HA3.out.mono (Nat.le_trans (Nat.le_trans HB2.out.size HA1.out.size) HA2.out.size)))
  clear HP1 HP2 HA1 HA2 HA3 HB2 HX2 HX1 HB1
  generalize ((w2.alloc (.cells #[.int .i64 0, .int .i64 0, .int .i64 0, .int .i64 8, .int .i64 1, .bool false] 69)).alloc (.cells #[.string ⟨code.toArray⟩, .slice (some ⟨w2.heap.size, 0, none⟩) 1 1, .slice none 0 0, .int .i64 4, .slice none 0 0] 73)).alloc (.cells #[.int .i64 0] 3) = w3 at *
  have z0 : w3.cell? ⟨w.heap.size, 0, none⟩ = some (.slice (some ⟨w2.heap.size + 1, 0, none⟩) 1 1) := (HXe.out.cell 0).trans rfl
  have z1 : w3.cell? ⟨w.heap.size, 1, none⟩ = some (.slice (some ⟨w2.heap.size + 1 + 1, 0, none⟩) 1 1) := (HXe.out.cell 1).trans rfl
  refine bodyPost_ret (v := .agg #[.slice (some ⟨w2.heap.size + 1, 0, none⟩) 1 1, .slice (some ⟨w2.heap.size + 1 + 1, 0, none⟩) 1 1]) ?_ rfl ⟨_, _, _, _, rfl, prog_mods HQ1.out HQ2.out HC.out, prog_order HP3.out, HBe.out⟩
  simp [results, Tryz.results10, go_sem, z0, z1]
end Go.Proofs.YtpfcojnkflcnoaaGreatDoor
/- How a small program ends, and what it wrote (ends). Condition: what lies in memory can lie there; tables of the library's lie there. -/
namespace Go.Proofs.YtpfcojnkflcnoaaGreatDoor
open Go.RowKit
set_option maxRecDepth 100000
attribute [local go_sem ↓] Go.wp_at_zero Go.wp_at_succ

theorem upd_zero (i : Nat) : upd (fun _ => 0) i 0 = fun _ => 0 := by funext j; unfold upd; split <;> rfl
theorem storeM_zero (n : Nat) (a : Int) : storeM n (fun _ => 0) a (w16 0) = fun _ => 0 := by unfold storeM; split; exact upd_zero _; rfl
theorem clearM_zero (n : Nat) (a : Int) (k : Nat) : clearM n (fun _ => 0) a k = fun _ => 0 := by
  unfold clearM
  split
  · funext j; unfold zeroM; split <;> rfl
  · rfl
theorem rn_start {K : MK} {code : List UInt8} (k : One K code) (inp : List UInt8) : Rn (startS K inp) 0 [] 0 [] := by
  have hm : nextMod K (zeroS inp) = 0 := by unfold nextMod; rw [k.order]; rfl
  have hp : nextP K (zeroS inp) = ⟨0, 0, 0, 8, 1, false⟩ := by unfold nextP; rw [hm, k.mods]; rfl
  have hb : beginsM K (zeroS inp) = (frameM K K.low 0 0 0 0 0 0 { zeroS inp with ord := 1, mod := 0, proc := 0, depth := 0 }, 0) := by
    unfold beginsM
    rw [if_neg (by rw [k.order]; show ¬ (0 : Int) = 1; decide), hp, if_neg (by rw [k.low, k.high]; decide), hm]
    rfl
  have hh : hereP K { zeroS inp with ord := 1, mod := 0, proc := 0, depth := 0 } = ⟨0, 0, 0, 8, 1, false⟩ := by unfold hereP modOf; rw [k.mods]; rfl
  have hf : frameM K K.low 0 0 0 0 0 0 { zeroS inp with ord := 1, mod := 0, proc := 0, depth := 0 } = { zeroS inp with ord := 1, mod := 0, proc := 0, depth := 1, fp := 5, sp := 10, next := 0 } := by
    unfold frameM
    rw [hh]
    unfold markM
    have h0 : (zeroS inp).ws = fun _ => 0 := rfl
    simp only [h0, storeM_zero, clearM_zero, k.low]
    rfl
  have hs : startS K inp = { zeroS inp with ord := 1, mod := 0, proc := 0, depth := 1, fp := 5, sp := 10, next := 0, at_ := 0 } := by
    unfold startS trapS
    rw [hb, hf]
    rfl
  rw [hs]
  exact ⟨rfl, rfl, rfl, rfl, rfl, rfl, by decide, rfl, rfl, rfl, rfl, rfl, rfl, fun j hj => by simp at hj⟩
theorem one_of_new {K : MK} {code : List UInt8} (h : NewK K (oneM code) [0] 100 50 50) : One K code :=
  ⟨h.mods, h.order, by rw [h.low]; rfl, by rw [h.high]; rfl, by have := h.n; simp [oneM] at this; omega, by rw [h.most]; rfl⟩
theorem check_one (code : List UInt8) (h : code.length ≤ 65535) : checkB [oneM code] [0] = true := by
  unfold checkB modB headB mayB withinB oneM
  simp
  exact ⟨h, rfl⟩
theorem outT_any (b : Nat) (o : List UInt8) (K : MK) (S : St) (hb : K.bt = b) (ho : S.out = o) (re im : Nat) (W : World) (hx : Bx b (tcells K S re im) 108 W) : Calls Tryz.prog 33 #[.pointer (some ⟨b, 0, none⟩)] W fun e w' => e = .returned (.string ⟨o.toArray⟩) ∧ W = w' := by
  subst ho hb
  have c1 : W.cell? ⟨K.bt, 1, none⟩ = some (.string ⟨S.out.toArray⟩) := (hx.cell 1).trans rfl
  clear hx
  go_enter Tryz.func33, Tryz.ntmps33
  go_wp2_with fail
  go_ret
  exact ⟨rfl, rfl⟩
theorem out_any (K : MK) (S : St) (W : World) (h : AtW K S W) : Calls Tryz.prog 15 #[.pointer (some ⟨K.b, 0, none⟩)] W fun e w' => e = .returned (.string ⟨S.out.toArray⟩) ∧ W = w' := by
  obtain ⟨cs, hx, A, c, rfl⟩ := h.box
  obtain ⟨re, im, _, ht⟩ := h.term
  have c0 : W.cell? ⟨K.b, 0, none⟩ = some (.pointer (some ⟨K.bt, 0, none⟩)) := (hx.cell 0).trans rfl
  have HT := Lib.hid ht
  clear hx ht h
  go_enter Tryz.func15, Tryz.ntmps15
  go_wp2_with (first | (go_at_call 33; refine (outT_any K.bt S.out K S rfl rfl re im _ HT.out).mono ?_; rintro e w' ⟨rfl, rfl⟩))
  go_ret
  exact ⟨rfl, rfl⟩
theorem AtW.grow {K : MK} {S : St} {W W' : World} (h : AtW K S W) (hb : Below W.heap.size W W') : AtW K S W' := by
  obtain ⟨cs, hx, hm⟩ := h.box
  obtain ⟨re, im, hre, ht⟩ := h.term
  exact ⟨⟨cs, hx.grow hb, hm⟩, ⟨re, im, hre, ht.grow hb⟩, h.mem.grow hb⟩
theorem AtW.only3 {K : MK} {S : St} {W : World} {b : Nat} (h : AtW K S W) (hb : ∀ k ∈ K.bs, k ≠ b) (u v x : Value) (k : KOk K) : AtW K S (((W.setCell ⟨b, 0, none⟩ u).setCell ⟨b, 1, none⟩ v).setCell ⟨b, 2, none⟩ x) := by
  obtain ⟨cs, hx, hm⟩ := h.box
  obtain ⟨re, im, hre, ht⟩ := h.term
  exact ⟨⟨cs, (set3_at W b u v x _ (hb _ k.hb)).trans hx, hm⟩, ⟨re, im, hre, (set3_at W b u v x _ (hb _ k.ht)).trans ht⟩, h.mem.later (set3_at W b u v x _ (hb _ k.hm))⟩
def EndsEnd (kind trap : Nat) (steps : Int) (o : List UInt8) (W : World) (e : Ending) (w' : World) : Prop := e = .returned (.tuple #[.agg #[.int .u8 kind, .int .u8 trap, .int .i64 steps], .string ⟨o.toArray⟩]) ∧ Below W.heap.size W w'
theorem Env.below {W W' : World} (h : Env W) (hb : Below W.heap.size W W') : Env W' := ⟨h.sp.later hb, h.p10.grow hb⟩
theorem envK_of {W W' : World} {K : MK} (h : Env W) (hb : Below W.heap.size W W') (hk : ∀ b ∈ K.bs, W.heap.size ≤ b) : EnvK K W' := fun _W2 ho => h.below (hb.trans (ho.below hb.size hk))
set_option maxHeartbeats 2000000 in
theorem ends_any (code : List UInt8) (hlen : code.length ≤ 65535) (fuel : Int) (hf : fuel ≤ 9223372036854775807) (kind trap : Nat) (steps : Int) (o : List UInt8) (hc : Comes code fuel kind trap steps o) (A2 A3 : Option Addr) (c2 c3 : Nat) (W : World) (hE : Env W) (hM : Mods W A2 [oneM code]) (hO : Ints W A3 [0]) :
    Calls Tryz.prog 9 #[.agg #[.slice A2 1 c2, .slice A3 1 c3], .int .i64 fuel] W (EndsEnd kind trap steps o W) := by
  have HB0 := Lib.hid (show Below W.heap.size W ((W.alloc (.cells #[.slice A2 1 c2, .slice A3 1 c3] 31)).alloc (.cells #[.int .u8 0, .int .u8 0, .int .i64 0] 25)) from ((Below.refl _ _).alloc (Nat.le_refl _) _).alloc (by simp) _)
  have HX0 := Lib.hid (show Bx (W.heap.size + 1) #[.int .u8 0, .int .u8 0, .int .i64 0] 25 ((W.alloc (.cells #[.slice A2 1 c2, .slice A3 1 c3] 31)).alloc (.cells #[.int .u8 0, .int .u8 0, .int .i64 0] 25)) by simpa using Bx.new (W.alloc (.cells #[.slice A2 1 c2, .slice A3 1 c3] 31)) #[.int .u8 0, .int .u8 0, .int .i64 0] 25)
  have HE := Lib.hid hE
  have HC := Lib.hid hc
  have HM := Lib.hid hM
  have HO := Lib.hid hO
  clear hE hc hM hO
  go_enter Tryz.func9, Tryz.ntmps9
  go_wp2_with fail
  generalize (W.alloc (.cells #[.slice A2 1 c2, .slice A3 1 c3] 31)).alloc (.cells #[.int .u8 0, .int .u8 0, .int .i64 0] 25) = w0 at *
  refine (new_one A2 A3 c2 c3 (oneM code) [0] (check_one code hlen) rfl (by decide) (by simp [oneM]) 100 50 50 (by decide) (by simp [oneM]) (by simp [oneM]) (by simp [oneM]) [105, 110] (by decide) _ (HM.out.later HB0.out (Nat.le_refl _)) (HO.out.later HB0.out (Nat.le_refl _))).mono ?_
  rintro e w1 ⟨K, rfl, hK, hN, hA, hb, hB⟩
  obtain ⟨n, S2, hR, hE2, hO2⟩ := HC.out K hK (one_of_new hN) _ (rn_start (one_of_new hN) [105, 110])
  have HR := Lib.hid hR
  have HE2 := Lib.hid hE2
  have HO2 := Lib.hid hO2
  have HS := Lib.hid (show (0 : Int) ≤ (startS K [105, 110]).steps by rw [(rn_start (one_of_new hN) [105, 110]).steps]; decide)
  have HK := Lib.hid hK
  have HA := Lib.hid hA
  have HX1 := Lib.hid (HX0.out.grow hB)
  have HB1 := Lib.hid (HB0.out.trans (hB.mono HB0.out.size))
  have HKb := Lib.hid hb
  have hx1 : W.heap.size + 1 < w0.heap.size := HX0.out.lt
  have HN := Lib.hid (show W.heap.size + 1 ∉ K.bs from fun hm => by have := hb _ hm; omega)
  have HKW := Lib.hid (show ∀ b ∈ K.bs, W.heap.size ≤ b from fun b hm => Nat.le_trans (by omega) (hb b hm))
  clear hR hE2 hO2 hK hN hA hB hb HC HB0 HX0 HM HO
  go_wp2_with fail
  refine (run_any K HK.out fuel hf n _ S2 HR.out HS.out _ HA.out (envK_of HE.out HB1.out HKW.out)).mono ?_
  rintro e w2 ⟨rfl, hA2, ho2⟩
  rw [HE2.out]
  have HX2 := Lib.hid (HX1.out.only ho2 HN.out)
  have HB2 := Lib.hid (HB1.out.trans (ho2.below HB1.out.size HKW.out))
  have HA2 := Lib.hid hA2
  clear hA2 ho2 HX1 HB1 HA
  dsimp only
  go_wp2_with fail
  have HX3 := Lib.hid ((HX2.out.grow (alloc_below w2 (.cells #[.int .u8 kind, .int .u8 trap, .int .i64 steps] 25))).grow (drew_below _))
  have HY3 := Lib.hid ((Bx.new w2 #[.int .u8 kind, .int .u8 trap, .int .i64 steps] 25).grow (drew_below _))
  have HB3 := Lib.hid ((HB2.out.trans ((alloc_below w2 (.cells #[.int .u8 kind, .int .u8 trap, .int .i64 steps] 25)).mono HB2.out.size)).trans ((drew_below (w2.alloc (.cells #[.int .u8 kind, .int .u8 trap, .int .i64 steps] 25))).mono (by have := HB2.out.size; simp; omega)))
  have HA3 := Lib.hid (HA2.out.grow (((alloc_below w2 (.cells #[.int .u8 kind, .int .u8 trap, .int .i64 steps] 25))).trans ((drew_below _).mono (by simp))))
  have hx2 : W.heap.size + 1 < w2.heap.size := HX2.out.lt
  have hne : w2.heap.size ≠ W.heap.size + 1 := by omega
  refine wp_region_held_drew (S := fun W' => Bx w2.heap.size #[.int .u8 kind, .int .u8 trap, .int .i64 steps] 25 W' ∧ AtW K S2 W') (by kernel_rfl) ⟨HY3.out, HA3.out⟩ (fun hHeld => ?_)
  clear HX2 HB2 HA2
  generalize (w2.alloc (.cells #[.int .u8 kind, .int .u8 trap, .int .i64 steps] 25)).drew = w3 at *
  generalize w2.heap.size = g at *
  refine wpAnyH_take (i := 0) (v := .agg #[.int .u8 kind, .int .u8 trap, .int .i64 steps]) rfl (by kernel_rfl) (by kernel_rfl) (by kernel_rfl) (fun _ _ _ h => h) (Or.inl ⟨by rfl, ?_⟩) hHeld ?_
  · intro w9 hS9
    have l0 : w9.cell? ⟨g, 0, none⟩ = some (.int .u8 kind) := (hS9.1.cell 0).trans rfl
    have l1 : w9.cell? ⟨g, 1, none⟩ = some (.int .u8 trap) := (hS9.1.cell 1).trans rfl
    have l2 : w9.cell? ⟨g, 2, none⟩ = some (.int .i64 steps) := (hS9.1.cell 2).trans rfl
    go_simp
  try simp only [Act.put]
  try simp only [List.setIfInBounds_toArray]
  refine wpAnyH_take (i := 1) (v := .pointer (some ⟨K.b, 0, none⟩)) rfl (by kernel_rfl) (by kernel_rfl) (by kernel_rfl) (fun _ _ _ h => h) (Or.inl ⟨by rfl, ?_⟩) hHeld ?_
  · intro w9 hS9
    go_simp
  try simp only [Act.put]
  try simp only [List.setIfInBounds_toArray]
  refine wpAnyH_ready (rs := [2]) (by kernel_rfl) (by simp) ?_
  refine AllReadyH.cons rfl (fun K' hK => ?_) AllReadyH.nil
  go_simp
  refine (out_any K S2 _ HA3.out).mono ?_
  rintro e w4 ⟨rfl, rfl⟩
  refine hK.out _ _ hHeld (fun _ => ?_)
  clear hK K'
  try simp only [Act.put]
  try simp only [List.setIfInBounds_toArray]
  have y0 : w3.cell? ⟨W.heap.size + 1, 0, none⟩ = some (.int .u8 0) := (HX3.out.cell 0).trans rfl
  have y1 : w3.cell? ⟨W.heap.size + 1, 1, none⟩ = some (.int .u8 0) := (HX3.out.cell 1).trans rfl
  have y2 : w3.cell? ⟨W.heap.size + 1, 2, none⟩ = some (.int .i64 0) := (HX3.out.cell 2).trans rfl
  have yf := HX3.out.frozen
  have yl := HX3.out.lt
  have HX4 := Lib.hid (((HX3.out.set 0 (.int .u8 kind)).set 1 (.int .u8 trap)).set 2 (.int .i64 steps))
  have HY4 := Lib.hid (((HY3.out.far (a := ⟨W.heap.size + 1, 0, none⟩) hne (.int .u8 kind)).far (a := ⟨W.heap.size + 1, 1, none⟩) hne (.int .u8 trap)).far (a := ⟨W.heap.size + 1, 2, none⟩) hne (.int .i64 steps))
  have HA4 := Lib.hid (HA3.out.only3 (b := W.heap.size + 1) (fun k hk e => HN.out (e ▸ hk)) (.int .u8 kind) (.int .u8 trap) (.int .i64 steps) HK.out)
  have HB4 := Lib.hid (((HB3.out.setCell (p := ⟨W.heap.size + 1, 0, none⟩) (Nat.le_succ _) (.int .u8 kind)).setCell (p := ⟨W.heap.size + 1, 1, none⟩) (Nat.le_succ _) (.int .u8 trap)).setCell (p := ⟨W.heap.size + 1, 2, none⟩) (Nat.le_succ _) (.int .i64 steps))
  refine wpAnyH_ready (rs := [3]) (by kernel_rfl) (by simp) ?_
  refine AllReadyH.cons rfl (fun K' hK => ?_) AllReadyH.nil
  go_simp
  refine hK.out _ _ ⟨HY4.out, HA4.out⟩ (fun hHeld4 => ?_)
  clear hK K' hHeld y0 y1 y2 yf yl
  try simp only [Act.put]
  try simp only [List.setIfInBounds_toArray]
  generalize World.setCell _ _ _ = w4 at *
  have z0 : w4.cell? ⟨W.heap.size + 1, 0, none⟩ = some (.int .u8 kind) := (HX4.out.cell 0).trans rfl
  have z1 : w4.cell? ⟨W.heap.size + 1, 1, none⟩ = some (.int .u8 trap) := (HX4.out.cell 1).trans rfl
  have z2 : w4.cell? ⟨W.heap.size + 1, 2, none⟩ = some (.int .i64 steps) := (HX4.out.cell 2).trans rfl
  refine wpAnyH_take (i := 4) (v := .string ⟨S2.out.toArray⟩) rfl (by kernel_rfl) (by kernel_rfl) (by kernel_rfl) (fun _ _ _ h => h) (Or.inl ⟨by rfl, ?_⟩) hHeld4 ?_
  · intro w9 hS9
    go_simp
  try simp only [Act.put]
  try simp only [List.setIfInBounds_toArray]
  refine wpAnyH_done (by kernel_rfl) ?_ _
  simp only [List.getElem_toArray, List.getElem_cons_succ, List.getElem_cons_zero, List.set_cons_zero, List.set_cons_succ]
  go_wp2_with fail
  refine bodyPost_ret (v := .tuple #[.agg #[.int .u8 kind, .int .u8 trap, .int .i64 steps], .string ⟨S2.out.toArray⟩]) ?_ rfl ⟨by rw [HO2.out], HB4.out⟩
  simp [results, Tryz.results9, go_sem, z0, z1, z2]
end Go.Proofs.YtpfcojnkflcnoaaGreatDoor
/- separatumlaw20.alive: true. Condition: tables of the library's lie there. (Printed by gen_nx.py.) -/
namespace Go.Proofs.YtpfcojnkflcnoaaGreatDoor
open Go.RowKit
set_option maxRecDepth 100000
attribute [local go_sem ↓] Go.wp_at_zero Go.wp_at_succ

/-- An instruction whose numbers lie there. -/
structure IA where
  op : Nat
  A : Option Addr
  c : Nat
  args : List Int
def iaCells (x : IA) : List Value := [.int .u8 x.op, .slice x.A x.args.length x.c]
theorem inss_of {w : World} {g : Nat} (l : List IA) (h : Bx g (l.flatMap iaCells).toArray 34 w) (hA : ∀ x ∈ l, K16.Ints w x.A x.args ∧ x.op < 256 ∧ x.args.length ≤ 17592186044416) : K16.Inss w (some ⟨g, 0, none⟩) (l.map fun x => (x.op, x.args)) := by
  refine .inr ⟨g, 0, rfl, h.lt, fun j hj => ?_⟩
  rw [List.length_map] at hj
  have hx : l.getD j ⟨0, none, 0, []⟩ ∈ l := getD_mem' _ _ _ hj
  obtain ⟨h1, h2, h3⟩ := hA _ hx
  have e : (l.map fun x => (x.op, x.args)).getD j (0, []) = ((l.getD j ⟨0, none, 0, []⟩).op, (l.getD j ⟨0, none, 0, []⟩).args) := by simp [List.getD_eq_getElem?_getD, hj]
  have hc : ∀ t, t < 2 → w.cell? ⟨g, 0 + j * 2 + t, none⟩ = (iaCells (l.getD j ⟨0, none, 0, []⟩))[t]? := fun t ht => by
    rw [h.cell, Nat.zero_add, List.getElem?_toArray, flat8 iaCells 2 (fun _ => rfl) l ⟨0, none, 0, []⟩ j t hj ht]
  rw [e]
  exact ⟨_, _, (hc 0 (by omega)).trans rfl, (hc 1 (by omega)).trans rfl, h1, h2, h3⟩
theorem ints_new (w : World) (x : Int) : K16.Ints (w.alloc (.cells #[.int .i64 x] 3)) (some ⟨w.heap.size, 0, none⟩) [x] :=
  .inr ⟨w.heap.size, 0, rfl, by simp, fun j hj => by
    obtain rfl : j = 0 := by simpa using hj
    exact ((Bx.new w #[.int .i64 x] 3).cell 0).trans rfl⟩
theorem enc_lit : K16.encodeL litP = (K16.bytesOf litP, 0) := by decide +kernel
theorem enc_jmp : K16.encodeL jmpP = (K16.bytesOf jmpP, 0) := by decide +kernel
theorem enc_add : K16.encodeL addP = (K16.bytesOf addP, 0) := by decide +kernel
def divP : List K16.InsL := [(40, [1]), (40, [0]), (11, [])]
theorem enc_div : K16.encodeL divP = (K16.bytesOf divP, 0) := by decide +kernel
theorem len_lit : (K16.bytesOf litP).length ≤ 65535 := by decide +kernel
theorem len_jmp : (K16.bytesOf jmpP).length ≤ 65535 := by decide +kernel
theorem len_add : (K16.bytesOf addP).length ≤ 65535 := by decide +kernel
theorem len_div : (K16.bytesOf divP).length ≤ 65535 := by decide +kernel
theorem div_comes : Comes (K16.bytesOf divP) 9 2 4 3 [] := fun K ko k S h => by
  obtain ⟨e1, e2⟩ := one_lit 1 (by omega)
  obtain ⟨e3, e4⟩ := one_lit 0 (by omega)
  have l1 : (K16.bytesOf [(40, [1])]).length = 3 := by decide
  have l2 : (K16.bytesOf [(40, [1]), (40, [0])]).length = 6 := by decide
  obtain ⟨S1, s1, h1⟩ := rn_lit k ko (x := 1) h (dec_at [] (40, [1]) [(40, [0]), (11, [])] (by decide) e1 rfl e2) (by omega) (by decide) (by decide) (by omega)
  refine run_on h (by decide) s1 ?_
  obtain ⟨S2, s2, h2⟩ := rn_lit k ko (x := 0) h1 (dec_at [(40, [1])] (40, [0]) [(11, [])] (by decide) e3 l1 e4) (by omega) (by decide) (by decide) (by omega)
  refine run_on h1 (by decide) s2 ?_
  have h3 := rn_op2 k ko (l := []) (x := 1) (y := 0) (n := 11) h2 (dec_at [(40, [1]), (40, [0])] (11, []) [] (m := 1) (by decide) (by decide) l2 (by decide)) (by decide) (by decide) (by decide)
  have hz : (opI 11 1 0).2 = 4 := by decide
  rw [if_neg (by rw [hz]; decide), hz] at h3
  obtain ⟨S3, s3, h3⟩ := h3
  exact run_trap h2 (by decide) (by decide) s3 h3
set_option maxHeartbeats 4000000 in
theorem alive20_any (w0 : World) (hE : Env w0) : Calls Tryz.prog 8 #[] w0 (BoolEnd w0 true) := by
  have HE0 := Lib.hid hE
  have HB0 := Lib.hid (Below.refl w0.heap.size w0)
  have hw0 := Nat.le_refl w0.heap.size
  clear hE
  go_enter Tryz.func8, Tryz.ntmps8

  go_wp2_with fail
  refine (ins_any 40 _ 1 1 _).mono ?_
  rintro e w1 ⟨rfl, hb⟩
  have HI0x1 := Lib.hid ((ints_new w0 7).later hb (Nat.le_refl _))
  replace hb := (alloc_below w0 (.cells #[.int .i64 7] 3)).trans (hb.mono (by simp))
  have HE1 := Lib.hid (HE0.out.below hb)
  have HB1 := Lib.hid (HB0.out.trans (hb.mono HB0.out.size))
  clear HE0 HB0
  clear hb
  go_wp2_with fail
  refine (ins_any 78 none 0 0 _).mono ?_
  rintro e w2 ⟨rfl, hb⟩
  have HI0x2 := Lib.hid (HI0x1.out.later hb (Nat.le_refl _))
  clear HI0x1
  have HE2 := Lib.hid (HE1.out.below hb)
  have HB2 := Lib.hid (HB1.out.trans (hb.mono HB1.out.size))
  clear HE1 HB1
  clear hb
  go_wp2_with fail
  refine (ins_any 65 none 0 0 _).mono ?_
  rintro e w3 ⟨rfl, hb⟩
  have HI0x3 := Lib.hid (HI0x2.out.later hb (Nat.le_refl _))
  clear HI0x2
  have HE3 := Lib.hid (HE2.out.below hb)
  have HB3 := Lib.hid (HB2.out.trans (hb.mono HB2.out.size))
  clear HE2 HB2
  clear hb
  go_wp2_with fail
  have hi := inss_of ([⟨40, some ⟨w0.heap.size, 0, none⟩, 1, [7]⟩, ⟨78, none, 0, []⟩, ⟨65, none, 0, []⟩] : List IA) ((Bx.new w3 #[.int .u8 40, .slice (some ⟨w0.heap.size, 0, none⟩) 1 1, .int .u8 78, .slice none 0 0, .int .u8 65, .slice none 0 0] 34).to rfl) (by
    intro x hx
    simp only [List.mem_cons, List.not_mem_nil, or_false] at hx
    rcases hx with rfl | rfl | rfl
    · exact ⟨HI0x3.out.later (alloc_below _ _) (Nat.le_refl _), by simp only; omega, by simp⟩
    · exact ⟨.inl rfl, by simp only; omega, by simp⟩
    · exact ⟨.inl rfl, by simp only; omega, by simp⟩
    )
  have HIn := Lib.hid (show K16.Inss (w3.alloc (.cells #[.int .u8 40, .slice (some ⟨w0.heap.size, 0, none⟩) 1 1, .int .u8 78, .slice none 0 0, .int .u8 65, .slice none 0 0] 34)) (some ⟨w3.heap.size, 0, none⟩) litP from hi)
  clear hi HI0x3
  have HA := Lib.hid (alloc_below w3 (.cells #[.int .u8 40, .slice (some ⟨w0.heap.size, 0, none⟩) 1 1, .int .u8 78, .slice none 0 0, .int .u8 65, .slice none 0 0] 34))
  have HEc := Lib.hid (show K16.encodeL litP = (K16.bytesOf litP, 0) from enc_lit)
  refine (one_any _ litP 3 (by show 3 ≤ 1000; omega) (by rw [HEc.out]) (by rw [HEc.out]; exact len_lit) _ HIn.out).mono ?_
  rw [HEc.out]
  rintro e w4 ⟨A2, A3, c2, c3, rfl, hM, hO, hb⟩
  replace hb := HA.out.trans (hb.mono HA.out.size)
  clear HA HIn HEc
  have HE4 := Lib.hid (HE3.out.below hb)
  have HB4 := Lib.hid (HB3.out.trans (hb.mono HB3.out.size))
  clear HE3 HB3
  clear hb
  have HM := Lib.hid hM
  have HO := Lib.hid hO
  clear hM hO
  go_wp2_with fail
  refine (ends_any _ (len_lit) 9 (by decide) _ _ _ _ (lit_comes) A2 A3 c2 c3 _ (HE4.out) HM.out HO.out).mono ?_
  rintro e w5 ⟨rfl, hb⟩
  clear HM HO
  have HE5 := Lib.hid (HE4.out.below hb)
  have HB5 := Lib.hid (HB4.out.trans (hb.mono HB4.out.size))
  clear HE4 HB4
  clear hb
  have hX0 := Bx.new w5 #[.int .u8 (1 : Nat), .int .u8 (0 : Nat), .int .i64 3] 25
  have ha := alloc_below w5 (.cells #[.int .u8 (1 : Nat), .int .u8 (0 : Nat), .int .i64 3] 25)
  have HE6 := Lib.hid (HE5.out.below ha)
  have HB6 := Lib.hid (HB5.out.trans (ha.mono HB5.out.size))
  have HX0_6 := Lib.hid hX0
  clear ha hX0 HE5 HB5
  go_upto_region 2 with (fail)
  generalize hg0 : w5.heap.size = g0 at *
  generalize World.alloc _ _ = w6 at *
  clear hg0
  go_wp2_with fail
  refine (ins_any 55 _ 1 1 _).mono ?_
  rintro e w7 ⟨rfl, hb⟩
  have HI0x7 := Lib.hid ((ints_new w6 (-3)).later hb (Nat.le_refl _))
  replace hb := (alloc_below w6 (.cells #[.int .i64 (-3)] 3)).trans (hb.mono (by simp))
  have HE7 := Lib.hid (HE6.out.below hb)
  have HB7 := Lib.hid (HB6.out.trans (hb.mono HB6.out.size))
  have HX0_7 := Lib.hid (HX0_6.out.grow hb)
  clear HE6 HB6 HX0_6
  clear hb
  go_wp2_with fail
  have hi := inss_of ([⟨55, some ⟨w6.heap.size, 0, none⟩, 1, [(-3)]⟩] : List IA) ((Bx.new w7 #[.int .u8 55, .slice (some ⟨w6.heap.size, 0, none⟩) 1 1] 34).to rfl) (by
    intro x hx
    simp only [List.mem_cons, List.not_mem_nil, or_false] at hx
    rcases hx with rfl
    · exact ⟨HI0x7.out.later (alloc_below _ _) (Nat.le_refl _), by simp only; omega, by simp⟩
    )
  have HIn := Lib.hid (show K16.Inss (w7.alloc (.cells #[.int .u8 55, .slice (some ⟨w6.heap.size, 0, none⟩) 1 1] 34)) (some ⟨w7.heap.size, 0, none⟩) jmpP from hi)
  clear hi HI0x7
  have HA := Lib.hid (alloc_below w7 (.cells #[.int .u8 55, .slice (some ⟨w6.heap.size, 0, none⟩) 1 1] 34))
  have HEc := Lib.hid (show K16.encodeL jmpP = (K16.bytesOf jmpP, 0) from enc_jmp)
  refine (one_any _ jmpP 1 (by show 1 ≤ 1000; omega) (by rw [HEc.out]) (by rw [HEc.out]; exact len_jmp) _ HIn.out).mono ?_
  rw [HEc.out]
  rintro e w8 ⟨A2, A3, c2, c3, rfl, hM, hO, hb⟩
  replace hb := HA.out.trans (hb.mono HA.out.size)
  clear HA HIn HEc
  have HE8 := Lib.hid (HE7.out.below hb)
  have HB8 := Lib.hid (HB7.out.trans (hb.mono HB7.out.size))
  have HX0_8 := Lib.hid (HX0_7.out.grow hb)
  clear HE7 HB7 HX0_7
  clear hb
  have HM := Lib.hid hM
  have HO := Lib.hid hO
  clear hM hO
  go_wp2_with fail
  refine (ends_any _ (len_jmp) 9 (by decide) _ _ _ _ (jmp_comes) A2 A3 c2 c3 _ (HE8.out) HM.out HO.out).mono ?_
  rintro e w9 ⟨rfl, hb⟩
  clear HM HO
  have HE9 := Lib.hid (HE8.out.below hb)
  have HB9 := Lib.hid (HB8.out.trans (hb.mono HB8.out.size))
  have HX0_9 := Lib.hid (HX0_8.out.grow hb)
  clear HE8 HB8 HX0_8
  clear hb
  have hX1 := Bx.new w9 #[.int .u8 (3 : Nat), .int .u8 (0 : Nat), .int .i64 9] 25
  have ha := alloc_below w9 (.cells #[.int .u8 (3 : Nat), .int .u8 (0 : Nat), .int .i64 9] 25)
  have HE10 := Lib.hid (HE9.out.below ha)
  have HB10 := Lib.hid (HB9.out.trans (ha.mono HB9.out.size))
  have HX0_10 := Lib.hid (HX0_9.out.grow ha)
  have HX1_10 := Lib.hid hX1
  clear ha hX1 HE9 HB9 HX0_9
  go_upto_region 3 with (fail)
  generalize hg1 : w9.heap.size = g1 at *
  generalize World.alloc _ _ = w10 at *
  clear hg1
  go_wp2_with fail
  refine (ins_any 1 none 0 0 _).mono ?_
  rintro e w11 ⟨rfl, hb⟩
  have HE11 := Lib.hid (HE10.out.below hb)
  have HB11 := Lib.hid (HB10.out.trans (hb.mono HB10.out.size))
  have HX0_11 := Lib.hid (HX0_10.out.grow hb)
  have HX1_11 := Lib.hid (HX1_10.out.grow hb)
  clear HE10 HB10 HX0_10 HX1_10
  clear hb
  go_wp2_with fail
  have hi := inss_of ([⟨1, none, 0, []⟩] : List IA) ((Bx.new w11 #[.int .u8 1, .slice none 0 0] 34).to rfl) (by
    intro x hx
    simp only [List.mem_cons, List.not_mem_nil, or_false] at hx
    rcases hx with rfl
    · exact ⟨.inl rfl, by simp only; omega, by simp⟩
    )
  have HIn := Lib.hid (show K16.Inss (w11.alloc (.cells #[.int .u8 1, .slice none 0 0] 34)) (some ⟨w11.heap.size, 0, none⟩) addP from hi)
  clear hi
  have HA := Lib.hid (alloc_below w11 (.cells #[.int .u8 1, .slice none 0 0] 34))
  have HEc := Lib.hid (show K16.encodeL addP = (K16.bytesOf addP, 0) from enc_add)
  refine (one_any _ addP 1 (by show 1 ≤ 1000; omega) (by rw [HEc.out]) (by rw [HEc.out]; exact len_add) _ HIn.out).mono ?_
  rw [HEc.out]
  rintro e w12 ⟨A2, A3, c2, c3, rfl, hM, hO, hb⟩
  replace hb := HA.out.trans (hb.mono HA.out.size)
  clear HA HIn HEc
  have HE12 := Lib.hid (HE11.out.below hb)
  have HB12 := Lib.hid (HB11.out.trans (hb.mono HB11.out.size))
  have HX0_12 := Lib.hid (HX0_11.out.grow hb)
  have HX1_12 := Lib.hid (HX1_11.out.grow hb)
  clear HE11 HB11 HX0_11 HX1_11
  clear hb
  have HM := Lib.hid hM
  have HO := Lib.hid hO
  clear hM hO
  go_wp2_with fail
  refine (ends_any _ (len_add) 9 (by decide) _ _ _ _ (add_comes) A2 A3 c2 c3 _ (HE12.out) HM.out HO.out).mono ?_
  rintro e w13 ⟨rfl, hb⟩
  clear HM HO
  have HE13 := Lib.hid (HE12.out.below hb)
  have HB13 := Lib.hid (HB12.out.trans (hb.mono HB12.out.size))
  have HX0_13 := Lib.hid (HX0_12.out.grow hb)
  have HX1_13 := Lib.hid (HX1_12.out.grow hb)
  clear HE12 HB12 HX0_12 HX1_12
  clear hb
  have hX2 := Bx.new w13 #[.int .u8 (2 : Nat), .int .u8 (14 : Nat), .int .i64 1] 25
  have ha := alloc_below w13 (.cells #[.int .u8 (2 : Nat), .int .u8 (14 : Nat), .int .i64 1] 25)
  have HE14 := Lib.hid (HE13.out.below ha)
  have HB14 := Lib.hid (HB13.out.trans (ha.mono HB13.out.size))
  have HX0_14 := Lib.hid (HX0_13.out.grow ha)
  have HX1_14 := Lib.hid (HX1_13.out.grow ha)
  have HX2_14 := Lib.hid hX2
  clear ha hX2 HE13 HB13 HX0_13 HX1_13
  go_upto_region 4 with (fail)
  generalize hg2 : w13.heap.size = g2 at *
  generalize World.alloc _ _ = w14 at *
  clear hg2
  go_wp2_with fail
  refine (ins_any 40 _ 1 1 _).mono ?_
  rintro e w15 ⟨rfl, hb⟩
  have HI0x15 := Lib.hid ((ints_new w14 1).later hb (Nat.le_refl _))
  replace hb := (alloc_below w14 (.cells #[.int .i64 1] 3)).trans (hb.mono (by simp))
  have HE15 := Lib.hid (HE14.out.below hb)
  have HB15 := Lib.hid (HB14.out.trans (hb.mono HB14.out.size))
  have HX0_15 := Lib.hid (HX0_14.out.grow hb)
  have HX1_15 := Lib.hid (HX1_14.out.grow hb)
  have HX2_15 := Lib.hid (HX2_14.out.grow hb)
  clear HE14 HB14 HX0_14 HX1_14 HX2_14
  clear hb
  go_wp2_with fail
  refine (ins_any 40 _ 1 1 _).mono ?_
  rintro e w16 ⟨rfl, hb⟩
  have HI1x16 := Lib.hid ((ints_new w15 0).later hb (Nat.le_refl _))
  replace hb := (alloc_below w15 (.cells #[.int .i64 0] 3)).trans (hb.mono (by simp))
  have HI0x16 := Lib.hid (HI0x15.out.later hb (Nat.le_refl _))
  clear HI0x15
  have HE16 := Lib.hid (HE15.out.below hb)
  have HB16 := Lib.hid (HB15.out.trans (hb.mono HB15.out.size))
  have HX0_16 := Lib.hid (HX0_15.out.grow hb)
  have HX1_16 := Lib.hid (HX1_15.out.grow hb)
  have HX2_16 := Lib.hid (HX2_15.out.grow hb)
  clear HE15 HB15 HX0_15 HX1_15 HX2_15
  clear hb
  go_wp2_with fail
  refine (ins_any 11 none 0 0 _).mono ?_
  rintro e w17 ⟨rfl, hb⟩
  have HI0x17 := Lib.hid (HI0x16.out.later hb (Nat.le_refl _))
  clear HI0x16
  have HI1x17 := Lib.hid (HI1x16.out.later hb (Nat.le_refl _))
  clear HI1x16
  have HE17 := Lib.hid (HE16.out.below hb)
  have HB17 := Lib.hid (HB16.out.trans (hb.mono HB16.out.size))
  have HX0_17 := Lib.hid (HX0_16.out.grow hb)
  have HX1_17 := Lib.hid (HX1_16.out.grow hb)
  have HX2_17 := Lib.hid (HX2_16.out.grow hb)
  clear HE16 HB16 HX0_16 HX1_16 HX2_16
  clear hb
  go_wp2_with fail
  have hi := inss_of ([⟨40, some ⟨w14.heap.size, 0, none⟩, 1, [1]⟩, ⟨40, some ⟨w15.heap.size, 0, none⟩, 1, [0]⟩, ⟨11, none, 0, []⟩] : List IA) ((Bx.new w17 #[.int .u8 40, .slice (some ⟨w14.heap.size, 0, none⟩) 1 1, .int .u8 40, .slice (some ⟨w15.heap.size, 0, none⟩) 1 1, .int .u8 11, .slice none 0 0] 34).to rfl) (by
    intro x hx
    simp only [List.mem_cons, List.not_mem_nil, or_false] at hx
    rcases hx with rfl | rfl | rfl
    · exact ⟨HI0x17.out.later (alloc_below _ _) (Nat.le_refl _), by simp only; omega, by simp⟩
    · exact ⟨HI1x17.out.later (alloc_below _ _) (Nat.le_refl _), by simp only; omega, by simp⟩
    · exact ⟨.inl rfl, by simp only; omega, by simp⟩
    )
  have HIn := Lib.hid (show K16.Inss (w17.alloc (.cells #[.int .u8 40, .slice (some ⟨w14.heap.size, 0, none⟩) 1 1, .int .u8 40, .slice (some ⟨w15.heap.size, 0, none⟩) 1 1, .int .u8 11, .slice none 0 0] 34)) (some ⟨w17.heap.size, 0, none⟩) divP from hi)
  clear hi HI0x17 HI1x17
  have HA := Lib.hid (alloc_below w17 (.cells #[.int .u8 40, .slice (some ⟨w14.heap.size, 0, none⟩) 1 1, .int .u8 40, .slice (some ⟨w15.heap.size, 0, none⟩) 1 1, .int .u8 11, .slice none 0 0] 34))
  have HEc := Lib.hid (show K16.encodeL divP = (K16.bytesOf divP, 0) from enc_div)
  refine (one_any _ divP 3 (by show 3 ≤ 1000; omega) (by rw [HEc.out]) (by rw [HEc.out]; exact len_div) _ HIn.out).mono ?_
  rw [HEc.out]
  rintro e w18 ⟨A2, A3, c2, c3, rfl, hM, hO, hb⟩
  replace hb := HA.out.trans (hb.mono HA.out.size)
  clear HA HIn HEc
  have HE18 := Lib.hid (HE17.out.below hb)
  have HB18 := Lib.hid (HB17.out.trans (hb.mono HB17.out.size))
  have HX0_18 := Lib.hid (HX0_17.out.grow hb)
  have HX1_18 := Lib.hid (HX1_17.out.grow hb)
  have HX2_18 := Lib.hid (HX2_17.out.grow hb)
  clear HE17 HB17 HX0_17 HX1_17 HX2_17
  clear hb
  have HM := Lib.hid hM
  have HO := Lib.hid hO
  clear hM hO
  go_wp2_with fail
  refine (ends_any _ (len_div) 9 (by decide) _ _ _ _ (div_comes) A2 A3 c2 c3 _ (HE18.out) HM.out HO.out).mono ?_
  rintro e w19 ⟨rfl, hb⟩
  clear HM HO
  have HE19 := Lib.hid (HE18.out.below hb)
  have HB19 := Lib.hid (HB18.out.trans (hb.mono HB18.out.size))
  have HX0_19 := Lib.hid (HX0_18.out.grow hb)
  have HX1_19 := Lib.hid (HX1_18.out.grow hb)
  have HX2_19 := Lib.hid (HX2_18.out.grow hb)
  clear HE18 HB18 HX0_18 HX1_18 HX2_18
  clear hb
  have hX3 := Bx.new w19 #[.int .u8 (2 : Nat), .int .u8 (4 : Nat), .int .i64 3] 25
  have ha := alloc_below w19 (.cells #[.int .u8 (2 : Nat), .int .u8 (4 : Nat), .int .i64 3] 25)
  have HE20 := Lib.hid (HE19.out.below ha)
  have HB20 := Lib.hid (HB19.out.trans (ha.mono HB19.out.size))
  have HX0_20 := Lib.hid (HX0_19.out.grow ha)
  have HX1_20 := Lib.hid (HX1_19.out.grow ha)
  have HX2_20 := Lib.hid (HX2_19.out.grow ha)
  have HX3_20 := Lib.hid hX3
  clear ha hX3 HE19 HB19 HX0_19 HX1_19 HX2_19
  go_upto_region 5 with (fail)
  generalize hg3 : w19.heap.size = g3 at *
  generalize World.alloc _ _ = w20 at *
  clear hg3
  go_wp2_with fail
  refine (check_any none none 0 0 [] [] (by simp) (by simp) _ (.inl rfl) (.inl rfl)).mono ?_
  rintro e wz ⟨k0, rfl, hb⟩
  rw [show errMod (checkB [] []) = 200 by decide]
  have HBz := Lib.hid (HB20.out.trans (hb.mono HB20.out.size))
  have HZ0 := Lib.hid (HX0_20.out.grow hb)
  have HZ1 := Lib.hid (HX1_20.out.grow hb)
  have HZ2 := Lib.hid (HX2_20.out.grow hb)
  have HZ3 := Lib.hid (HX3_20.out.grow hb)
  clear hb
  have a0 : wz.cell? ⟨g0, 0, none⟩ = some (.int .u8 1) := (HZ0.out.cell 0).trans rfl
  have a1 : wz.cell? ⟨g0, 1, none⟩ = some (.int .u8 0) := (HZ0.out.cell 1).trans rfl
  have a2 : wz.cell? ⟨g0, 2, none⟩ = some (.int .i64 3) := (HZ0.out.cell 2).trans rfl
  have b0 : wz.cell? ⟨g1, 0, none⟩ = some (.int .u8 3) := (HZ1.out.cell 0).trans rfl
  have b1 : wz.cell? ⟨g1, 1, none⟩ = some (.int .u8 0) := (HZ1.out.cell 1).trans rfl
  have b2 : wz.cell? ⟨g1, 2, none⟩ = some (.int .i64 9) := (HZ1.out.cell 2).trans rfl
  have d0 : wz.cell? ⟨g2, 0, none⟩ = some (.int .u8 2) := (HZ2.out.cell 0).trans rfl
  have d1 : wz.cell? ⟨g2, 1, none⟩ = some (.int .u8 14) := (HZ2.out.cell 1).trans rfl
  have d2 : wz.cell? ⟨g2, 2, none⟩ = some (.int .i64 1) := (HZ2.out.cell 2).trans rfl
  have f0 : wz.cell? ⟨g3, 0, none⟩ = some (.int .u8 2) := (HZ3.out.cell 0).trans rfl
  have f1 : wz.cell? ⟨g3, 1, none⟩ = some (.int .u8 4) := (HZ3.out.cell 1).trans rfl
  have f2 : wz.cell? ⟨g3, 2, none⟩ = some (.int .i64 3) := (HZ3.out.cell 2).trans rfl
  go_wp2_with fail
  go_ret
  exact ⟨rfl, HBz.out⟩
end Go.Proofs.YtpfcojnkflcnoaaGreatDoor
