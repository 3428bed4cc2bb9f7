/- Layer 16, bundled. A machine's run as a row of steps. A region that draws its order, by what holds whichever of its operations have co. Condition: what lies in memory can lie there; what each theorem says. -/
import Derived.Test.YtabenhpjgjjgnaaGreatDoorBak
import Derived.Test.YtabenhpjgjjgnaaGreatDoorBah
import Derived.Test.YtabenhpjgjjgnaaGreatDoorBai
import Derived.Test.YtabenhpjgjjgnaaGreatDoorBaa
import Derived.RegionTactic
import Derived.Deep.DeepCutAuto
import Derived.Deep.AppendLies
import Derived.Deep.RegionLaw
import Derived.Maps.AppendAt
import Derived.Orders
/- Layer 16, bundled. -/
section
namespace Go.Proofs.YtabenhpjgjjgnaaGreatDoor.K16
open Go.RowKit
set_option maxRecDepth 100000
def OneB (w : World) (b : Nat) (v : Value) (t : TypeId) : Prop := w.heap[b]? = some (.cells #[v] t (0, 0))
theorem OneB.cell {w : World} {b : Nat} {v : Value} {t : TypeId} (h : OneB w b v t) : w.cell? ⟨b, 0, none⟩ = some v := by
 unfold World.cell?; rw [h]; rfl
theorem OneB.frozen {w : World} {b : Nat} {v : Value} {t : TypeId} (h : OneB w b v t) : w.frozen? ⟨b, 0, none⟩ = false := by
 unfold World.frozen?; rw [h]; rfl
theorem OneB.set {w : World} {b : Nat} {v : Value} {t : TypeId} (h : OneB w b v t) (u : Value) : OneB (w.setCell ⟨b, 0, none⟩ u) b u t := by
 unfold OneB at h ⊢
 simp [World.setCell, Array.getElem?_modify, h]
theorem OneB.far {w : World} {b : Nat} {v : Value} {t : TypeId} (h : OneB w b v t) {p : Addr} (hp : b ≠ p.block) (u : Value) : OneB (w.setCell p u) b v t := (Below.heap_setCell w p u b hp).trans h
theorem OneB.below {w w' : World} {b : Nat} {v : Value} {t : TypeId} {B : Nat} (h : OneB w b v t) (hb : Below B w w') (hB : b < B) : OneB w' b v t := (hb.block b hB).trans h
theorem OneB.lt {w : World} {b : Nat} {v : Value} {t : TypeId} (h : OneB w b v t) : b < w.heap.size := lt_of_get h
structure DecInv (w : World) (s : List UInt8) (op bb m : Nat) (v : Value) (args : List Int) (nx : Nat) (bad : Bool) (wr : World) : Prop where
 box : OneB wr w.heap.size (.string ⟨s.toArray⟩) 9
 ins : wr.heap[w.heap.size + 1]? = some (.cells #[.int .u8 op, v] 47 (0, 0))
 own : wr.ownsRow w.heap.size 3 1 v args.length (args.map (Value.int .i64))
 far : v.ownBlock ≠ some (w.heap.size + 2)
 next : OneB wr (w.heap.size + 2) (.int .i64 nx) 3
 fail : OneB wr bb (.bool bad) 4
 kinds : wr.heap[m]? = some (.map numEntries 3)
 old : Below w.heap.size w wr
theorem own_set {w : World} {B : Nat} {e : TypeId} {size : Nat} {v : Value} {n : Nat} {xs : List Value} (h : w.ownsRow B e size v n xs) (p : Addr) (u : Value) (hp : v.ownBlock ≠ some p.block) : (w.setCell p u).ownsRow B e size v n xs := by
 refine ⟨h.1, ?_⟩
 rcases h.2 with hn | ⟨g, cap, cur, rfl, hB, hgg, rest⟩
 ·exact .inl hn
 ·exact .inr ⟨g, cap, cur, rfl, hB, (Below.heap_setCell w p u g (fun e => hp (by simp [Value.ownBlock, e]))).trans hgg, rest⟩
theorem own_type_ne {w : World} {B : Nat} {e : TypeId} {size : Nat} {v : Value} {n : Nat} {xs : List Value} (h : w.ownsRow B e size v n xs) {b : Nat} {cs : Array Value} {t : TypeId} (hb : w.heap[b]? = some (.cells cs t (0, 0))) (hne : e ≠ t) : v.ownBlock ≠ some b := by
 rcases h.2 with ⟨rfl, _⟩ | ⟨g, cap, cur, rfl, _, hh, _⟩
 ·simp [Value.ownBlock]
 ·intro he
  have : g = b := by simpa [Value.ownBlock] using he
  subst this
  rw [hh] at hb
  injection hb with hb
  injection hb with _ ht
  exact hne ht
theorem DecInv.later {w wr wx : World} {s : List UInt8} {op bb m : Nat} {v : Value} {args : List Int} {nx : Nat} {bad : Bool} (h : DecInv w s op bb m v args nx bad wr) (hb : Below wr.heap.size wr wx) : DecInv w s op bb m v args nx bad wx :=
 ⟨h.box.below hb h.box.lt, (hb.block _ (lt_of_get h.ins)).trans h.ins, own_later h.own hb, h.far, h.next.below hb h.next.lt, h.fail.below hb h.fail.lt, (hb.block _ (lt_of_get h.kinds)).trans h.kinds,
  h.old.trans (hb.mono h.old.size)⟩
theorem DecInv.setNext {w wr : World} {s : List UInt8} {op bb m : Nat} {v : Value} {args : List Int} {nx : Nat} {bad : Bool} (h : DecInv w s op bb m v args nx bad wr) (hbb : bb ≠ w.heap.size + 2) (hm : m ≠ w.heap.size + 2) (nx' : Nat) :
 DecInv w s op bb m v args nx' bad (wr.setCell ⟨w.heap.size + 2, 0, none⟩ (.int .i64 nx')) :=
 ⟨h.box.far (by simp) _, (Below.heap_setCell _ _ _ _ (by simp)).trans h.ins, own_set h.own _ _ h.far, h.far, h.next.set _, h.fail.far (by simpa using hbb) _, (Below.heap_setCell _ _ _ _ (by simpa using hm)).trans h.kinds,
  h.old.setCell (by simp) _⟩
theorem DecInv.setFail {w wr : World} {s : List UInt8} {op bb m : Nat} {v : Value} {args : List Int} {nx : Nat} {bad : Bool} (h : DecInv w s op bb m v args nx bad wr) (hbb : w.heap.size + 2 < bb) (hm : m ≠ bb) (bad' : Bool) :
 DecInv w s op bb m v args nx bad' (wr.setCell ⟨bb, 0, none⟩ (.bool bad')) :=
 ⟨h.box.far (by simp; omega) _, (Below.heap_setCell _ _ _ _ (by simp; omega)).trans h.ins, own_set h.own _ _ (own_type_ne h.own h.fail (by decide)), h.far, h.next.far (by simp; omega) _, h.fail.set _, (Below.heap_setCell _ _ _ _ (by simpa using hm)).trans h.kinds,
  h.old.setCell (by simp; omega) _⟩
theorem DecInv.cell1 {w wr : World} {s : List UInt8} {op bb m : Nat} {v : Value} {args : List Int} {nx : Nat} {bad : Bool} (h : DecInv w s op bb m v args nx bad wr) : wr.cell? ⟨w.heap.size + 1, 1, none⟩ = some v := by
 unfold World.cell?; rw [h.ins]; rfl
theorem cell_ins1 {w : World} {b : Nat} {x v : Value} {t : TypeId} (h : w.heap[b]? = some (.cells #[x, v] t (0, 0))) : w.cell? ⟨b, 1, none⟩ = some v := by
 unfold World.cell?; rw [h]; rfl
theorem frozen_ins1 {w : World} {b : Nat} {x v : Value} {t : TypeId} (h : w.heap[b]? = some (.cells #[x, v] t (0, 0))) : w.frozen? ⟨b, 1, none⟩ = false := by
 unfold World.frozen?; rw [h]; simp
theorem below_undrew {w w' : World} (h : Below w.drew.heap.size w.drew w') : Below w.heap.size w w' := ⟨h.os, h.tape, h.output, h.size, h.block⟩
def ReadD (w : World) (s : List UInt8) (op bb m : Nat) (v : Value) (args : List Int) (nx : Nat) (bad : Bool) (x : Int) (e : Ending) (wx : World) : Prop := e = .returned (.int .i64 x) ∧ DecInv w s op bb m v args nx bad wx
theorem sizeK_N (c : UInt8) : sizeK c = ((sizeN c : Nat) : Int) := by unfold sizeK sizeN; split <;> rfl
theorem readD_bad (c : UInt8) (w wr : World) (s : List UInt8) (op bb m : Nat) (v : Value) (args : List Int) (nx : Nat) (bad : Bool) (h : DecInv w s op bb m v args nx bad wr) (hbb : w.heap.size + 2 < bb) (hm : m ≠ bb) (hs : s.length ≤ 4294967296) (hn : nx ≤ s.length)
 (hf : failsB c s nx bad = true) :
 Calls Tryz.prog 126 #[.agg #[.int .i64 (lowK c), .int .i64 (highK c), .int .i64 (sizeK c)], .pointer (some ⟨bb, 0, none⟩), .pointer (some ⟨w.heap.size, 0, none⟩), .pointer (some ⟨w.heap.size + 2, 0, none⟩)] wr
  (ReadD w s op bb m v args nx true 0) := by
 refine (read_bad _ _ _ bb _ _ s nx bad wr ?_ hs hn h.fail.cell h.box.cell h.next.cell h.fail.frozen h.fail.lt h.box.lt h.next.lt).mono ?_
 ·unfold failsB at hf
  simp only [Bool.or_eq_true, decide_eq_true_eq] at hf
  rcases hf with hf | hf
  ·exact .inl hf
  ·exact .inr (by rw [sizeK_N]; omega)
 ·rintro e wx ⟨rfl, hb⟩
  exact ⟨rfl, (h.setFail hbb hm true).later (hb.mono (by simp))⟩
theorem readD_ok (c : UInt8) (hc : letter c) (w wr : World) (s : List UInt8) (op bb m : Nat) (v : Value) (args : List Int) (nx : Nat) (bad : Bool) (h : DecInv w s op bb m v args nx bad wr) (hbb : w.heap.size + 2 < bb) (hm : m ≠ w.heap.size + 2) (hs : s.length ≤ 4294967296)
 (hf : failsB c s nx bad = false) :
 Calls Tryz.prog 126 #[.agg #[.int .i64 (lowK c), .int .i64 (highK c), .int .i64 (sizeK c)], .pointer (some ⟨bb, 0, none⟩), .pointer (some ⟨w.heap.size, 0, none⟩), .pointer (some ⟨w.heap.size + 2, 0, none⟩)] wr
  (ReadD w s op bb m v args (nx + sizeN c) bad (readN c s nx)) := by
 unfold failsB at hf
 simp only [Bool.or_eq_false_iff, decide_eq_false_iff_not] at hf
 obtain ⟨hbad, hfit⟩ := hf
 rw [sizeK_N]
 have hz : sizeN c = 1 ∨ sizeN c = 2 := by unfold sizeN; split <;> simp
 have hk : 0 ≤ highK c ∧ highK c ≤ 65535 := by unfold highK; split <;> (try split) <;> omega
 have hfail : wr.cell? ⟨bb, 0, none⟩ = some (.bool false) := by rw [h.fail.cell, hbad]
 refine (read_ok (lowK c) (highK c) (sizeN c) hz bb _ _ s nx wr hs (by omega) hk.1 hk.2 hfail h.box.cell h.next.cell h.fail.frozen h.next.frozen h.fail.lt h.box.lt h.next.lt _ _ rfl rfl (readN c s nx) ?_).mono ?_
 ·have b0 := (s.getD nx 0).toNat_lt
  rcases hc with rfl | rfl | rfl
  ·show ((s.getD nx 0).toNat : Int) = if (255 : Int) < ((s.getD nx 0).toNat : Int) then _ else ((s.getD nx 0).toNat : Int)
   rw [if_neg (by omega)]
  ·rfl
  ·rfl
 ·rintro e wx ⟨rfl, hb⟩
  exact ⟨rfl, (h.setNext (by omega) hm _).later (hb.mono (by simp))⟩
theorem readD_any (c : UInt8) (hc : letter c) (w wr : World) (s : List UInt8) (op bb m : Nat) (v : Value) (args : List Int) (nx : Nat) (bad : Bool) (h : DecInv w s op bb m v args nx bad wr) (hbb : w.heap.size + 2 < bb) (hm : bb < m) (hs : s.length ≤ 4294967296) (hn : nx ≤ s.length) :
 Calls Tryz.prog 126 #[.agg #[.int .i64 (lowK c), .int .i64 (highK c), .int .i64 (sizeK c)], .pointer (some ⟨bb, 0, none⟩), .pointer (some ⟨w.heap.size, 0, none⟩), .pointer (some ⟨w.heap.size + 2, 0, none⟩)] wr
  (ReadD w s op bb m v args (readX c s nx bad).2.1 (readX c s nx bad).2.2 (readX c s nx bad).1) := by
 unfold readX
 by_cases hf : failsB c s nx bad = true
 ·rw [if_pos hf]
  exact readD_bad c w wr s op bb m v args nx bad h hbb (by omega) hs hn hf
 ·rw [if_neg hf]
  exact readD_ok c hc w wr s op bb m v args nx bad h hbb (by omega) hs (by simpa using hf)
theorem readD_byte (w wr : World) (s : List UInt8) (op bb m : Nat) (v : Value) (args : List Int) (nx : Nat) (bad : Bool) (h : DecInv w s op bb m v args nx bad wr) (hbb : w.heap.size + 2 < bb) (hm : bb < m) (hs : s.length ≤ 4294967296) (hn : nx ≤ s.length) :
 Calls Tryz.prog 126 #[.agg #[.int .i64 0, .int .i64 255, .int .i64 1], .pointer (some ⟨bb, 0, none⟩), .pointer (some ⟨w.heap.size, 0, none⟩), .pointer (some ⟨w.heap.size + 1 + 1, 0, none⟩)] wr
  (ReadD w s op bb m v args (readX 66 s nx bad).2.1 (readX 66 s nx bad).2.2 (readX 66 s nx bad).1) := readD_any 66 (.inl rfl) w wr s op bb m v args nx bad h hbb hm hs hn
theorem DecInv.cells {w wr : World} {s : List UInt8} {op bb m : Nat} {v : Value} {args : List Int} {nx : Nat} {bad : Bool} (h : DecInv w s op bb m v args nx bad wr) :
 wr.cell? ⟨w.heap.size + 1, 0, none⟩ = some (.int .u8 op) ∧ wr.cell? ⟨w.heap.size + 1, 1, none⟩ = some v ∧ wr.cell? ⟨w.heap.size + 1 + 1, 0, none⟩ = some (.int .i64 nx) ∧
  wr.frozen? ⟨w.heap.size + 1, 0, none⟩ = false ∧ wr.frozen? ⟨w.heap.size + 1, 1, none⟩ = false ∧ wr.frozen? ⟨w.heap.size + 1 + 1, 0, none⟩ = false ∧ w.heap.size + 1 < wr.heap.size ∧ w.heap.size + 1 + 1 < wr.heap.size := by
 refine ⟨?_, h.cell1, h.next.cell, ?_, frozen_ins1 h.ins, h.next.frozen, lt_of_get h.ins, h.next.lt⟩
 ·unfold World.cell?; rw [h.ins]; rfl
 ·unfold World.frozen?; rw [h.ins]; rfl
theorem DecInv.append {w w6 w7 : World} {s : List UInt8} {op bb m : Nat} {v : Value} {args : List Int} {nx : Nat} {bad : Bool} {x : Int} {g cap : Nat} (h : DecInv w s op bb m v args nx bad w6) (o : Obj)
 (hown : w7.ownsRow w.heap.size 3 1 (.slice (some ⟨g, 0, none⟩) (args.length + 1) cap) (args.length + 1) (args.map (Value.int .i64) ++ [.int .i64 x])) (hg : (w6.alloc o).grownBy w7 v.ownBlock) (hat : v.ownBlock = some g ∨ g = w6.heap.size + 1) :
 w7.heap[w.heap.size + 1]? = some (.cells #[.int .u8 op, v] 47 (0, 0)) ∧
 DecInv w s op bb m (.slice (some ⟨g, 0, none⟩) (args.length + 1) cap) (args ++ [x]) nx bad (w7.setCell ⟨w.heap.size + 1, 1, none⟩ (.slice (some ⟨g, 0, none⟩) (args.length + 1) cap)) := by
 have hw6 : w.heap.size + 2 < w6.heap.size := h.next.lt
 have keep : ∀ (b : Nat) (o' : Obj), w6.heap[b]? = some o' → v.ownBlock ≠ some b → w7.heap[b]? = some o' := fun b o' hb hne =>
  (hg.block b (by simp; have := lt_of_get hb; omega) (fun e => hne e.symm)).trans ((Below.heap_alloc w6 o b (lt_of_get hb)).trans hb)
 have k1 := keep _ _ h.ins (own_type_ne h.own h.ins (by decide))
 have hgv : g ≠ w.heap.size + 2 := by
  rcases hat with e | e
  ·intro e2; exact h.far (by rw [e, e2])
  ·omega
 have hgi : g ≠ w.heap.size + 1 := by
  intro e2
  exact own_type_ne hown k1 (by decide) (by simp [Value.ownBlock, e2])
 have hold : Below w.heap.size w w7 := by
  refine (h.old.alloc h.old.size o).grown hg (by have := h.old.size; simp; omega) ?_
  intro b hb
  rcases h.own.2 with ⟨rfl, _⟩ | ⟨g', cap', cur, rfl, hB, _⟩
  ·simp [Value.ownBlock] at hb
  ·have : g' = b := by simpa [Value.ownBlock] using hb
   omega
 have hmap : (.int .i64 x : Value) = Value.int .i64 x := rfl
 refine ⟨k1, ?_, ?_, ?_, by simp [Value.ownBlock, hgv], ?_, ?_, ?_, hold.setCell (by simp) _⟩
 ·exact OneB.far (keep _ _ h.box (own_type_ne h.own h.box (by decide))) (by simp) _
 ·have := k1
  simp [World.setCell, Array.getElem?_modify, this]
 ·have h2 := own_set hown ⟨w.heap.size + 1, 1, none⟩ (.slice (some ⟨g, 0, none⟩) (args.length + 1) cap) (by simp [Value.ownBlock, hgi])
  simpa using h2
 ·exact OneB.far (keep _ _ h.next h.far) (by simp) _
 ·have hf : w.heap.size + 1 ≠ bb := by
   intro e
   have h1 := h.ins
   rw [e] at h1
   have h2 := h.fail
   unfold OneB at h2
   rw [h1] at h2
   simp at h2
  exact OneB.far (keep _ _ h.fail (own_type_ne h.own h.fail (by decide))) (by simpa using hf.symm) _
 ·have hm : w.heap.size + 1 ≠ m := by
   intro e
   have h1 := h.ins
   rw [e, h.kinds] at h1
   simp at h1
  have hv : v.ownBlock ≠ some m := by
   rcases h.own.2 with ⟨rfl, _⟩ | ⟨g', cap', cur, rfl, _, hh, _⟩
   ·simp [Value.ownBlock]
   ·intro he
    have : g' = m := by simpa [Value.ownBlock] using he
    subst this
    rw [h.kinds] at hh
    simp at hh
  exact (Below.heap_setCell _ _ _ _ (by simpa using hm.symm)).trans (keep _ _ h.kinds hv)
end Go.Proofs.YtabenhpjgjjgnaaGreatDoor.K16
end
section
namespace Go.Proofs.YtabenhpjgjjgnaaGreatDoor.K16
open Go.RowKit
set_option maxRecDepth 100000
def DecEnd (w : World) (r : InsL × Int × Int) (e : Ending) (w' : World) : Prop :=
 ∃ v, e = .returned (.tuple #[.agg #[.int .u8 r.1.1, v], .int .i64 r.2.1, .int .i64 r.2.2]) ∧ w'.ownsRow w.heap.size 3 1 v r.1.2.length (r.1.2.map (Value.int .i64)) ∧ Below w.heap.size w w'
set_option maxHeartbeats 600000 in
theorem dec_out (s : List UInt8) (_hs : s.length ≤ 4294967296) (at_ : Int) (h : at_ < 0 ∨ (s.length : Int) ≤ at_) (w : World) :
 Calls Tryz.prog 63 #[.string ⟨s.toArray⟩, .int .i64 at_] w (DecEnd w ((0, []), 0, 2)) := by
 by_cases h0 : at_ < 0
 ·have d0 : decide (at_ < 0) = true := by simpa using h0
  go_enter Tryz.func63, Tryz.ntmps63
  go_wp2_with fail
  refine bodyPost_ret (v := .tuple #[.agg #[.int .u8 0, .slice none 0 0], .int .i64 0, .int .i64 2]) (by simp [results, Tryz.results63, go_sem]) rfl ⟨_, rfl, ⟨rfl, .inl ⟨rfl, rfl⟩⟩, ?_⟩
  exact (((Below.refl _ _).alloc (Nat.le_refl _) _).alloc (by simp) _).alloc (by simp; omega) _
 ·have d0 : decide (at_ < 0) = false := by simpa using h0
  have d1 : decide ((s.length : Int) ≤ at_) = true := by
   rcases h with h | h
   ·exact absurd h h0
   ·simpa using h
  clear h
  go_enter Tryz.func63, Tryz.ntmps63
  go_wp2_with fail
  refine bodyPost_ret (v := .tuple #[.agg #[.int .u8 0, .slice none 0 0], .int .i64 0, .int .i64 2]) (by simp [results, Tryz.results63, go_sem]) rfl ⟨_, rfl, ⟨rfl, .inl ⟨rfl, rfl⟩⟩, ?_⟩
  exact (((Below.refl _ _).alloc (Nat.le_refl _) _).alloc (by simp) _).alloc (by simp; omega) _
theorem three_boxes {w w1 : World} {a b c d : Value} {t1 t2 t3 : TypeId} (hb : Below (((w.alloc (.cells #[a] t1)).alloc (.cells #[b, c] t2)).alloc (.cells #[d] t3)).heap.size (((w.alloc (.cells #[a] t1)).alloc (.cells #[b, c] t2)).alloc (.cells #[d] t3)) w1) :
 w1.heap[w.heap.size]? = some (.cells #[a] t1 (0, 0)) ∧ w1.heap[w.heap.size + 1]? = some (.cells #[b, c] t2 (0, 0)) ∧ w1.heap[w.heap.size + 2]? = some (.cells #[d] t3 (0, 0)) ∧ Below w.heap.size w w1 ∧ w.heap.size + 3 ≤ w1.heap.size := by
 have hz : (((w.alloc (.cells #[a] t1)).alloc (.cells #[b, c] t2)).alloc (.cells #[d] t3)).heap.size = w.heap.size + 3 := by simp
 rw [hz] at hb
 refine ⟨(hb.block _ (by omega)).trans ?_, (hb.block _ (by omega)).trans ?_, (hb.block _ (by omega)).trans ?_, ?_, by have := hb.size; rw [hz] at this; exact this⟩
 ·rw [Below.heap_alloc _ _ _ (by simp; omega), Below.heap_alloc _ _ _ (by simp)]; exact heap_alloc_new _ _
 ·rw [Below.heap_alloc _ _ _ (by simp)]
  have := heap_alloc_new (w.alloc (.cells #[a] t1)) (.cells #[b, c] t2)
  simpa using this
 ·have := heap_alloc_new ((w.alloc (.cells #[a] t1)).alloc (.cells #[b, c] t2)) (.cells #[d] t3)
  simpa using this
 ·exact ((((Below.refl _ _).alloc (Nat.le_refl _) _).alloc (by simp) _).alloc (by simp; omega) _).trans (hb.mono (by omega))
set_option maxHeartbeats 600000 in
theorem dec_none (s : List UInt8) (_hs : s.length ≤ 4294967296) (k : Nat) (hk : k < s.length) (n : Nat) (hn : (s.getD k 0).toNat = n) (hT : thereB n = false) (w : World) (ht : Tab w) :
 Calls Tryz.prog 63 #[.string ⟨s.toArray⟩, .int .i64 k] w (DecEnd w ((0, []), 0, 160)) := by
 have hn2 : n < 256 := by rw [← hn]; exact (s.getD k 0).toNat_lt
 have hE := Lib.hid (show nameL n = [] by have := name_there n hn2; rw [hT] at this; simpa using this)
 have HN := Lib.hid (show ((⟨s.toArray⟩ : ByteArray)[k]'(by simpa [ByteArray.size] using hk)).toNat = n by
  rw [← hn, List.getD_eq_getElem?_getD, List.getElem?_eq_getElem hk]; rfl)
 clear hn hT
 have d0 : decide ((k : Int) < 0) = false := by simp
 have d1 : decide ((s.length : Int) ≤ (k : Int)) = false := by simp; omega
 go_enter Tryz.func63, Tryz.ntmps63
 go_wp2_with fail
 rw [HN.out]
 refine (name_any n hn2 _ (((ht.alloc _).alloc _).alloc _)).mono ?_
 rintro e w1 ⟨rfl, hb1⟩
 obtain ⟨g0, g1, g2, hbw, hz⟩ := three_boxes hb1
 rw [hE.out]
 have c0 : w1.cell? ⟨w.heap.size + 1, 0, none⟩ = some (.int .u8 0) := by unfold World.cell?; rw [g1]; rfl
 have c1 : w1.cell? ⟨w.heap.size + 1, 1, none⟩ = some (.slice none 0 0) := by unfold World.cell?; rw [g1]; rfl
 have c2 : w1.cell? ⟨w.heap.size + 1 + 1, 0, none⟩ = some (.int .i64 0) := OneB.cell g2
 have f0 : w1.frozen? ⟨w.heap.size + 1, 0, none⟩ = false := by unfold World.frozen?; rw [g1]; rfl
 have f1 : w1.frozen? ⟨w.heap.size + 1, 1, none⟩ = false := by unfold World.frozen?; rw [g1]; rfl
 have f2 : w1.frozen? ⟨w.heap.size + 1 + 1, 0, none⟩ = false := OneB.frozen g2
 have s0 := setCell_same c0
 have s1 := setCell_same c1
 have s2 := setCell_same c2
 clear hb1 g0 g1 g2
 go_wp2_with fail
 refine bodyPost_ret (v := .tuple #[.agg #[.int .u8 0, .slice none 0 0], .int .i64 0, .int .i64 160]) (by simp [results, Tryz.results63, go_sem, c0, c1, c2]) rfl ⟨_, rfl, ⟨rfl, .inl ⟨rfl, rfl⟩⟩, hbw⟩
end Go.Proofs.YtabenhpjgjjgnaaGreatDoor.K16
end
section
namespace Go.Proofs.YtabenhpjgjjgnaaGreatDoor.K16
open Go.RowKit
set_option maxRecDepth 100000
theorem Tab.setNext {w : World} (h : Tab w) (b : Nat) (v : Value) (hb : 0 < b) : Tab (w.setCell ⟨b, 0, none⟩ v) :=
 h.below (B := b) ((Below.refl b w).setCell (p := ⟨b, 0, none⟩) (Nat.le_refl _) v) hb
theorem dec_start (s : List UInt8) (k : Nat) {w w1 : World} (hbw : Below w.heap.size w w1) (hz : w.heap.size + 3 ≤ w1.heap.size)
 (g : w1.heap[w.heap.size]? = some (.cells #[.string ⟨s.toArray⟩] 9 (0, 0)) ∧ w1.heap[w.heap.size + 1]? = some (.cells #[.int .u8 0, .slice none 0 0] 47 (0, 0)) ∧ w1.heap[w.heap.size + 2]? = some (.cells #[.int .i64 0] 3 (0, 0))) :
 DecInv w s 0 w1.heap.size (w1.heap.size + 1) (.slice none 0 0) [] (k + 1) false (((w1.setCell ⟨w.heap.size + 1 + 1, 0, none⟩ (.int .i64 ((k : Int) + 1))).alloc (.cells #[.bool false] 4)).alloc (.map numEntries 3)) := by
 obtain ⟨g0, g1, g2⟩ := g
 have e1 : (w1.setCell ⟨w.heap.size + 1 + 1, 0, none⟩ (.int .i64 ((k : Int) + 1))).heap.size = w1.heap.size := by simp
 have hold : ∀ (b : Nat), b < w1.heap.size → b ≠ w.heap.size + 2 → (((w1.setCell ⟨w.heap.size + 1 + 1, 0, none⟩ (.int .i64 ((k : Int) + 1))).alloc (.cells #[.bool false] 4)).alloc (.map numEntries 3)).heap[b]? = w1.heap[b]? := fun b hb hne => by
  rw [Below.heap_alloc _ _ _ (by simp; omega), Below.heap_alloc _ _ _ (by simpa using hb), Below.heap_setCell _ _ _ _ (by simpa using hne)]
 refine ⟨(hold _ (by omega) (by omega)).trans g0, (hold _ (by omega) (by omega)).trans g1, ⟨rfl, .inl ⟨rfl, rfl⟩⟩, by simp [Value.ownBlock], ?_, ?_, ?_, ?_⟩
 ·show _ = _
  rw [Below.heap_alloc _ _ _ (by simp; omega), Below.heap_alloc _ _ _ (by simp; omega)]
  exact OneB.set (b := w.heap.size + 2) g2 _
 ·show _ = _
  rw [Below.heap_alloc _ _ _ (by simp)]
  have := heap_alloc_new (w1.setCell ⟨w.heap.size + 1 + 1, 0, none⟩ (.int .i64 ((k : Int) + 1))) (.cells #[.bool false] 4)
  rwa [e1] at this
 ·have := heap_alloc_new ((w1.setCell ⟨w.heap.size + 1 + 1, 0, none⟩ (.int .i64 ((k : Int) + 1))).alloc (.cells #[.bool false] 4)) (.map numEntries 3)
  rw [World.size_alloc, e1] at this
  exact this
 ·exact ((hbw.setCell (by simp; omega) _).alloc (by rw [e1]; omega) _).alloc (by simp; omega) _
theorem DecInv.setOp {w wr : World} {s : List UInt8} {bb m : Nat} {v : Value} {args : List Int} {nx : Nat} {bad : Bool} (h : DecInv w s 0 bb m v args nx bad wr) (hbb : w.heap.size + 1 < bb) (hm : w.heap.size + 1 < m) (n : Nat) :
 DecInv w s n bb m v args nx bad (wr.setCell ⟨w.heap.size + 1, 0, none⟩ (.int .u8 n)) := by
 refine ⟨h.box.far (by simp) _, ?_, own_set h.own _ _ (own_type_ne h.own h.ins (by decide)), h.far, h.next.far (by simp) _, h.fail.far (by simp; omega) _, (Below.heap_setCell _ _ _ _ (by simp; omega)).trans h.kinds,
  h.old.setCell (by simp) _⟩
 have := h.ins
 simp [World.setCell, Array.getElem?_modify, this]
theorem own_slice {w : World} {B : Nat} {e : TypeId} {size : Nat} {v : Value} {n : Nat} {xs : List Value} (h : w.ownsRow B e size v n xs) : ∃ A m c, v = .slice A m c := by
 rcases h.2 with ⟨rfl, _⟩ | ⟨g, cap, cur, rfl, _⟩
 ·exact ⟨_, _, _, rfl⟩
 ·exact ⟨_, _, _, rfl⟩
theorem letter_whole (n r j : Nat) (h : j < (wholeL n r).length) : letter ((wholeL n r).getD j 0) := by
 rw [List.getD_eq_getElem?_getD, List.getElem?_eq_getElem h]
 exact whole_letters _ _ _ (List.getElem_mem h)
theorem int_info : (Tryz.prog.info? 3).map (fun i => (i.zero, i.size, i.bytes)) = some (some (.int .i64 0), 1, 8) := by kernel_rfl
def CutD (w : World) (s : List UInt8) (op bb m : Nat) (args : List Int) (nx : Nat) (bad : Bool) (wx : World) : Prop := ∃ v, DecInv w s op bb m v args nx bad wx
set_option maxHeartbeats 2000000 in
theorem dec_main (s : List UInt8) (hs : s.length ≤ 4294967296) (k : Nat) (hk : k < s.length) (n : Nat) (hn : (s.getD k 0).toNat = n) (hT : thereB n = true) (w : World) (ht : Tab w) :
 Calls Tryz.prog 63 #[.string ⟨s.toArray⟩, .int .i64 k] w (DecEnd w (if (stAt n s (k + 1) (endAt n s (k + 1))).bad then ((0, []), 0, 7) else ((n, (stAt n s (k + 1) (endAt n s (k + 1))).args), ((stAt n s (k + 1) (endAt n s (k + 1))).nx : Int), 0))) := by
 have hn2 : n < 256 := by rw [← hn]; exact (s.getD k 0).toNat_lt
 have hE : (nameL n).isEmpty = false := by have := name_there n hn2; rw [hT] at this; simpa using this
 have HN := Lib.hid (show ((⟨s.toArray⟩ : ByteArray)[k]'(by simpa [ByteArray.size] using hk)).toNat = n by
  rw [← hn, List.getD_eq_getElem?_getD, List.getElem?_eq_getElem hk]; rfl)
 clear hn hT
 have d0 : decide ((k : Int) < 0) = false := by simp
 have d1 : decide ((s.length : Int) ≤ (k : Int)) = false := by simp; omega
 generalize hres : (if (stAt n s (k + 1) (endAt n s (k + 1))).bad then (((0, []), 0, 7) : InsL × Int × Int) else ((n, (stAt n s (k + 1) (endAt n s (k + 1))).args), ((stAt n s (k + 1) (endAt n s (k + 1))).nx : Int), 0)) = res
 have HRES := Lib.hid hres
 clear hres
 go_enter Tryz.func63, Tryz.ntmps63
 go_wp2_with fail
 rw [HN.out]
 refine (name_any n hn2 _ (((ht.alloc _).alloc _).alloc _)).mono ?_
 rintro e w1 ⟨rfl, hb1⟩
 have ht1 := Lib.hid ((((ht.alloc _).alloc _).alloc _).later hb1)
 obtain ⟨g0, g1, g2, hbw, hz⟩ := three_boxes hb1
 have c2 : w1.cell? ⟨w.heap.size + 1 + 1, 0, none⟩ = some (.int .i64 0) := OneB.cell g2
 have f2 : w1.frozen? ⟨w.heap.size + 1 + 1, 0, none⟩ = false := OneB.frozen g2
 have c0 : w1.cell? ⟨w.heap.size + 1, 0, none⟩ = some (.int .u8 0) := by unfold World.cell?; rw [g1]; rfl
 have f0 : w1.frozen? ⟨w.heap.size + 1, 0, none⟩ = false := by unfold World.frozen?; rw [g1]; rfl
 have hz1 : w.heap.size + 1 + 1 < w1.heap.size := by omega
 have hz2 : w.heap.size + 1 < w1.heap.size := by omega
 have G := Lib.hid (And.intro g0 (And.intro g1 g2))
 clear hb1 g0 g1 g2
 go_wp2_with fail
 refine (numbers_any _).mono ?_
 rintro e w2 ⟨rfl, rfl⟩
 have hD := dec_start s k hbw hz G.out
 have htD := Lib.hid (((ht1.out.setNext (w.heap.size + 1 + 1) (.int .i64 ((k : Int) + 1)) (by have := ht.pos; omega)).alloc (.cells #[.bool false] 4)).alloc (.map numEntries 3))
 have e0 : ((w1.setCell ⟨w.heap.size + 1 + 1, 0, none⟩ (.int .i64 ((k : Int) + 1))).alloc (.cells #[.bool false] 4)).heap.size = w1.heap.size + 1 := by simp
 have E0 := Lib.hid e0
 clear e0 c0 f0 c2 f2 ht1
 generalize ((w1.setCell ⟨w.heap.size + 1 + 1, 0, none⟩ (.int .i64 ((k : Int) + 1))).alloc (.cells #[.bool false] 4)).alloc (.map numEntries 3) = W2 at *
 rw [E0.out]
 have c0 : W2.cell? ⟨w.heap.size + 1, 0, none⟩ = some (.int .u8 0) := by unfold World.cell?; rw [hD.ins]; rfl
 have f0 : W2.frozen? ⟨w.heap.size + 1, 0, none⟩ = false := by unfold World.frozen?; rw [hD.ins]; rfl
 have hD2 := Lib.hid (hD.setOp (by omega) (by omega) n)
 have htD2 := Lib.hid (htD.out.setNext (w.heap.size + 1) (.int .u8 n) (by have := ht.pos; omega))
 clear hD htD E0 G
 go_wp2_with fail
 have hbbm : w.heap.size + 2 < w1.heap.size := by omega
 clear c0 f0 hE d0 d1
 go_loopg [11, 12] 800 (fun g rn i wr => ∃ j : Nat, j + g = 800 ∧ j ≤ endAt n s (k + 1) ∧ i = .int .i64 j ∧ rn = .int .i64 (stAt n s (k + 1) j).rows ∧
  ∃ v, DecInv w s n w1.heap.size (w1.heap.size + 1) v (stAt n s (k + 1) j).args (stAt n s (k + 1) j).nx (stAt n s (k + 1) j).bad wr)
 case atStart => exact ⟨0, by omega, Nat.zero_le _, rfl, rfl, _, hD2.out⟩
 case round =>
  clear hD2 htD2
  obtain ⟨j, hj, hje, rfl, rfl, v, hD⟩ := hrel
  have hend := end_few n s (k + 1)
  have hrows := st_rows n s (k + 1) j
  have hnx := st_nx n s (k + 1) (by omega) j
  have hlen := st_len n s (k + 1) j
  have HSTEP := Lib.hid (show stAt n s (k + 1) (j + 1) = stepSt n s j (stAt n s (k + 1) j) from rfl)
  have HMORE := Lib.hid (st_more n s (k + 1) j)
  have HDONE := Lib.hid (fun h => st_done n s (k + 1) j h hje)
  generalize hst : stAt n s (k + 1) j = st at *
  have HST := Lib.hid hst
  have HD := Lib.hid hD
  have htr := Lib.hid (ht.later hD.old)
  clear hst hD
  obtain ⟨rows, nx, bad, args⟩ := st
  simp only at hrows hnx hlen HMORE HDONE HSTEP HD ⊢
  have hwl : (wholeL n rows).length ≤ 800 := by rw [whole_length]; have := form_short n; omega
  go_wp2_with fail
  refine (whole_any n hn2 rows (by omega) _ htr.out).mono ?_
  rintro e w5 ⟨rfl, hb5⟩
  have HD5 := Lib.hid (HD.out.later hb5)
  have ht5 := Lib.hid (htr.out.later hb5)
  clear hb5 HD htr
  by_cases hlt : j < (wholeL n rows).length
  ·have HM := Lib.hid (HMORE.out hlt)
   have hc := letter_whole n rows j hlt
   have hcx : ((⟨(wholeL n rows).toArray⟩ : ByteArray)[j]'(by simpa [ByteArray.size] using hlt)).toNat = ((wholeL n rows).getD j 0).toNat := by
    rw [List.getD_eq_getElem?_getD, List.getElem?_eq_getElem hlt]; rfl
   obtain ⟨i0, hi0, hz0, hz1', hz2'⟩ := info_parts int_info
   generalize hcc : (wholeL n rows).getD j 0 = c at *
   have HCC := Lib.hid hcc
   clear hcc
   have i5 := HD5.out.cell1
   have hwr : IntKind.i32.wrap (c.toNat : Int) = (c.toNat : Int) := by rcases hc with rfl | rfl | rfl <;> rfl
   have hjI : (j : Int) < ((wholeL n rows).length : Int) := by omega
   have hmax : args.length + 1 ≤ maxLen := by unfold maxLen; omega
   have hbytes : (args.length + 1) * 8 ≤ 140737488355328 := by omega
   have HL := Lib.hid hlen
   clear hlen
   go_upto_region 15 with (fail)
   go_cut [] (fun wx => CutD w s n w1.heap.size (w1.heap.size + 1) (args ++ [(readX c s nx bad).1]) (readX c s nx bad).2.1 (readX c s nx bad).2.2 wx)
   case first =>
    go_region_law (first
     | (refine step_append_lies _ (by rfl) _ _ _ (by rfl) w.heap.size 3 i0 _ 1 8 Tryz.underlying23 hi0 hz0 hz1' hz2' rfl (by omega) v args.length (args.map (Value.int .i64)) (by rfl) (HD7.out.own.alloc _) ⟨w7.heap.size, 0, none⟩ 1 1 [.int .i64 (readX c s nx bad).1] (by rfl) (by rfl) (World.news_of_block (cs := #[.int .i64 (readX c s nx bad).1]) (t := 3) (fr := (0, 0)) (heap_alloc_new w7 _)) (by simp [Value.oneCell']) (by omega) hmax hbytes (by have := HD7.out.old.size; simp; omega) (w7.heap.size + 1) (by simp) ?_
        intro gg cap w8 hown8 hg8 hat8 hlt8
        have A8 := Lib.hid (HD7.out.append _ hown8 hg8 hat8)
        have i8 := cell_ins1 A8.out.1
        have f8 := frozen_ins1 A8.out.1
        clear hown8 hg8 hat8)
     | (go_simp
        go_at_call 128
        refine (whole_any n hn2 rows (by omega) _ ht5.out.drew).mono ?_
        rintro e w6 ⟨rfl, hb6⟩
        have HD6 := Lib.hid (HD5.out.later (below_undrew hb6))
        have i6 := HD6.out.cell1
        have l6 := look_any c hc w6 _ HD6.out.kinds
        clear hb6)
     | (go_simp
        go_at_call 126
        refine (readD_any c hc w w6 s n w1.heap.size (w1.heap.size + 1) v args nx bad HD6.out hbbm (by omega) hs hnx).mono ?_
        rintro e w7 ⟨rfl, hD7⟩
        have HD7 := Lib.hid hD7
        have i7 := hD7.cell1
        have z7 := lt_of_get hD7.ins
        clear hD7))
    all_goals (go_wp2_with fail; go_meet; exact ⟨_, A8.out.2⟩)
   case rest =>
    obtain ⟨v', hD6⟩ := hcut
    have HD6 := Lib.hid hD6
    have hnx2 := readX_nx c s nx bad hnx
    have HR1 := Lib.hid (read1_eq c s rows nx bad args)
    clear hD6 i5 HD5 ht5
    generalize hrx : readX c s nx bad = rx at *
    clear hrx
    obtain ⟨x, nx2, bad2⟩ := rx
    simp only at HD6 hnx2 HR1
    by_cases h60 : n = 60
    ·by_cases hj0 : j = 0
     ·have b1 : ((n : Int) == 60) = true := by simp; omega
      have b2 : ((j : Int) == 0) = true := by simp; omega
      have l6 := look_B wc _ HD6.out.kinds
      have HS2 := Lib.hid (show stepSt n s j ⟨rows, nx, bad, args⟩ = readRows s ⟨rows, nx2, bad2, args ++ [x]⟩ by
       unfold stepSt; rw [if_pos ⟨h60, hj0⟩, HCC.out, HR1.out])
      have HR2 := Lib.hid (readRows_eq s rows nx2 bad2 (args ++ [x]))
      have hby := readX_byte s nx2 bad2
      clear h60 hj0
      go_wp2_with fail
      refine (readD_byte w wc s n w1.heap.size (w1.heap.size + 1) v' (args ++ [x]) nx2 bad2 HD6.out hbbm (by omega) hs hnx2).mono ?_
      rintro e w7 ⟨rfl, hD7⟩
      have HD7 := Lib.hid hD7
      clear hD7 l6 HD6
      generalize hrx : readX 66 s nx2 bad2 = rx at *
      clear hrx
      obtain ⟨x3, nx3, bad3⟩ := rx
      simp only at HD7 HR2 hby ⊢
      go_wp2_with fail
      go_roundg (gk - 1)
      case measure => omega
      case rel =>
       refine ⟨j + 1, by omega, HM.out, by go_num, ?_, v', ?_⟩
       ·rw [HSTEP.out, HS2.out, HR2.out]
        simp only
        rw [Int.toNat_of_nonneg hby.1]
       ·rw [HSTEP.out, HS2.out, HR2.out]
        exact HD7.out
     ·have b1 : ((n : Int) == 60) = true := by simp; omega
      have b2 : ((j : Int) == 0) = false := by simp; omega
      have HS2 := Lib.hid (show stepSt n s j ⟨rows, nx, bad, args⟩ = ⟨rows, nx2, bad2, args ++ [x]⟩ by
       unfold stepSt; rw [if_neg (fun h => hj0 h.2), HCC.out, HR1.out])
      clear h60 hj0
      go_wp2_with fail
      go_roundg (gk - 1)
      case measure => omega
      case rel =>
       refine ⟨j + 1, by omega, HM.out, by go_num, ?_, v', ?_⟩
       ·rw [HSTEP.out, HS2.out]
       ·rw [HSTEP.out, HS2.out]
        exact HD6.out
    ·have b1 : ((n : Int) == 60) = false := by simp; omega
     have HS2 := Lib.hid (show stepSt n s j ⟨rows, nx, bad, args⟩ = ⟨rows, nx2, bad2, args ++ [x]⟩ by
      unfold stepSt; rw [if_neg (fun h => h60 h.1), HCC.out, HR1.out])
     clear h60
     go_wp2_with fail
     go_roundg (gk - 1)
     case measure => omega
     case rel =>
      refine ⟨j + 1, by omega, HM.out, by go_num, ?_, v', ?_⟩
      ·rw [HSTEP.out, HS2.out]
      ·rw [HSTEP.out, HS2.out]
       exact HD6.out
  ·have HEND := Lib.hid (HDONE.out hlt)
   have hnlt : ((wholeL n rows).length : Int) ≤ (j : Int) := by omega
   have q0 := HD5.out.fail.cell
   have hbad : bad = (stAt n s (k + 1) j).bad := by rw [HST.out]
   have hargs : args = (stAt n s (k + 1) j).args := by rw [HST.out]
   have hnxx : nx = (stAt n s (k + 1) j).nx := by rw [HST.out]
   rw [HEND.out] at hbad hargs hnxx
   rw [← hbad, ← hargs, ← hnxx] at HRES
   clear hbad hargs hnxx HST HDONE HSTEP HMORE
   obtain ⟨vA, vn, vc, rfl⟩ := own_slice HD5.out.own
   obtain ⟨p0, p1, p2, p3, p4, p5, p6, p7⟩ := HD5.out.cells
   have hown5 := Lib.hid HD5.out.own
   have hold5 := Lib.hid HD5.out.old
   have hend := Lib.hid hend
   have hlen := Lib.hid hlen
   clear hrows hnx hwl hj hje hlt
   cases bad with
   | true =>
     have HR := Lib.hid (show res = ((0, []), 0, 7) from HRES.out.symm)
     clear HRES
     go_wp2_with fail
     refine bodyPost_ret (v := .tuple #[.agg #[.int .u8 0, .slice none 0 0], .int .i64 0, .int .i64 7]) (by simp [results, Tryz.results63, go_sem, p0, p1, p2]) rfl ?_
     rw [HR.out]
     exact ⟨_, rfl, ⟨rfl, .inl ⟨rfl, rfl⟩⟩, ((hold5.out.setCell (by simp) _).setCell (by simp) _).setCell (by simp; omega) _⟩
   | false =>
     have s0 := setCell_same p0
     have s1 := setCell_same p1
     have s2 := setCell_same p2
     have HR := Lib.hid (show res = ((n, args), (nx : Int), 0) from HRES.out.symm)
     clear HRES
     go_wp2_with fail
     go_region
     all_goals go_wp2_with fail
     all_goals
      refine bodyPost_ret (v := .tuple #[.agg #[.int .u8 n, .slice vA vn vc], .int .i64 nx, .int .i64 0]) (by simp [results, Tryz.results63, go_sem, p0, p1, p2]) rfl ?_
      rw [HR.out]
      exact ⟨_, rfl, hown5.out, hold5.out.drew⟩
end Go.Proofs.YtabenhpjgjjgnaaGreatDoor.K16
end
section
namespace Go.Proofs.YtabenhpjgjjgnaaGreatDoor.K16
open Go.RowKit
set_option maxRecDepth 100000
theorem decode_any (s : List UInt8) (hs : s.length ≤ 4294967296) (at_ : Int) (w : World) (ht : Tab w) :
 Calls Tryz.prog 63 #[.string ⟨s.toArray⟩, .int .i64 at_] w (DecEnd w (decodeL s at_)) := by
 unfold decodeL
 by_cases h : at_ < 0 ∨ (s.length : Int) ≤ at_
 ·rw [if_pos h]; exact dec_out s hs at_ h w
 ·rw [if_neg h]
  obtain ⟨k, rfl⟩ := Int.eq_ofNat_of_zero_le (show 0 ≤ at_ by omega)
  rw [Int.toNat_natCast]
  by_cases hT : thereB (s.getD k 0).toNat = false
  ·rw [if_pos hT]; exact dec_none s hs k (by omega) _ rfl hT w ht
  ·rw [if_neg hT]; exact dec_main s hs k (by omega) _ rfl (by simpa using hT) w ht
end Go.Proofs.YtabenhpjgjjgnaaGreatDoor.K16
end
/- A machine's run as a row of steps. -/
namespace Go.Proofs.YtabenhpjgjjgnaaGreatDoor
open Go.RowKit
set_option maxRecDepth 100000
structure Env (W : World) : Prop where
 sp : K16.Tab W
 p10 : TabP W
def doM (K : MK) (op : Nat) (S : St) : St × Nat :=
 if takesN op ≠ 0 then opM K op (takesN op) S
 else if op = 40 then litM K S
 else if op = 55 then jmpM K S
 else if op = 57 then jumpsM K false S
 else if op = 65 then beginsM K S
 else if op = 68 then turnsM K 1 [0, 0] S
 else if op = 69 then turnsM K 1 [] S
 else if op = 70 then turnsM K 2 [0, 1] S
 else if op = 78 then textsM K false S
 else (S, 12)
structure DoOk (K : MK) (op : Nat) (S : St) : Prop where
 known : takesN op ≠ 0 ∨ op = 40 ∨ op = 55 ∨ op = 57 ∨ op = 65 ∨ op = 68 ∨ op = 69 ∨ op = 70 ∨ op = 78
 args : (op = 40 ∨ op = 55 ∨ op = 57) → 0 < S.args.length ∧ -1000000 ≤ S.args.getD 0 0 ∧ S.args.getD 0 0 ≤ 1000000
 body : op = 65 → (hereP K S).fn = false ∧ S.ws (S.fp.toNat - 1 + 1) = 0 ∧ S.fp = K.low
 ord0 : 0 ≤ S.ord
 ord1 : S.ord ≤ K.order.length
 next0 : 0 ≤ S.next
 next1 : S.next ≤ 1000000
 most0 : 0 ≤ K.most
 most1 : K.most ≤ 1000000
 out : S.out.length ≤ 1000000
 few : K.order.length ≤ 1000
def EnvK (K : MK) (W : World) : Prop := ∀ W', Only K.bs W W' → Env W'
theorem EnvK.only {K : MK} {W W' : World} (h : EnvK K W) (ho : Only K.bs W W') : EnvK K W' := fun _ h2 => h _ (ho.trans h2)
def StepOk (K : MK) (S : St) (r : St × Nat) : Prop := ∀ W, At K S W → EnvK K W → Calls Tryz.prog 37 #[.pointer (some ⟨K.b, 0, none⟩)] W (OpEnd K W r)
inductive RunTo (K : MK) (fuel : Int) : Nat → St → St → Prop
 | stop {S : St} (h : S.kind = 0 → fuel ≤ S.steps) : RunTo K fuel 0 S S
 | step {n : Nat} {S S1 S2 : St} (h0 : S.kind = 0) (h1 : 0 ≤ S.steps) (h2 : S.steps < fuel) (hs : StepOk K { S with steps := S.steps + 1 } (S1, 0)) (hr : RunTo K fuel n { S1 with at_ := S1.next } S2) : RunTo K fuel (n + 1) S S2
 | trap {S S1 : St} {t : Nat} (h0 : S.kind = 0) (h1 : 0 ≤ S.steps) (h2 : S.steps < fuel) (hs : StepOk K { S with steps := S.steps + 1 } (S1, t)) (ht : t ≠ 0) : RunTo K fuel 0 S { S1 with kind := 2, trap := t }
def endOf (S : St) : Nat × Nat × Int := if S.kind = 0 then (3, 0, S.steps) else (S.kind, S.trap, S.steps)
end Go.Proofs.YtabenhpjgjjgnaaGreatDoor
/- A region that draws its order, by what holds whichever of its operations have co. -/
namespace Go.Proofs.YtabenhpjgjjgnaaGreatDoor
open Go.RowKit
section
variable {P : Program} {ops : Array Oper} {Q : Exit → Act → World → Prop} {md : Region.Mode}
def leftN (ops : Array Oper) (listed : Array Bool) : Nat := ((List.range ops.size).filter fun j => !listed.getD j false).length
theorem getD_ft {listed : Array Bool} {j : Nat} (h : listed.getD j true = false) : listed.getD j false = false ∧ j < listed.size := by
 rcases Nat.lt_or_ge j listed.size with h' | h'
 ·simp [h'] at h ⊢; exact h
 ·simp [Array.getElem?_eq_none h'] at h
theorem getD_tf {listed : Array Bool} {j : Nat} (h : listed.getD j false = false) (hj : j < listed.size) : listed.getD j true = false := by
 simp [hj] at h ⊢; exact h
theorem getD_set_self {listed : Array Bool} {j : Nat} (hj : j < listed.size) : (listed.setIfInBounds j true).getD j false = true := by simp [hj]
theorem leftN_set {listed : Array Bool} {j : Nat} (hj : j < ops.size) (h : listed.getD j true = false) : leftN ops (listed.setIfInBounds j true) < leftN ops listed := by
 obtain ⟨hf, hs⟩ := getD_ft h
 have e : ((List.range ops.size).filter fun i => !(listed.setIfInBounds j true).getD i false) = ((List.range ops.size).filter fun i => !listed.getD i false).filter fun i => decide (i ≠ j) := by
  rw [List.filter_filter]
  apply List.filter_congr
  intro i _
  by_cases hij : i = j
  ·subst hij; rw [getD_set_self hs]; simp
  ·rw [getD_set_ne false (Ne.symm hij)]; simp [hij]
 unfold leftN
 rw [e, List.length_filter_lt_length_iff_exists]
 exact ⟨j, List.mem_filter.2 ⟨List.mem_range.2 hj, by rw [hf]; rfl⟩, by simp⟩
def Closed (md : Region.Mode) (ops : Array Oper) (listed : Array Bool) : Prop := ∀ i o, ops[i]? = some o → listed.getD i false = true → ∀ e ∈ o.after, Region.binds md e = true → listed.getD e.on false = true
theorem all_listed (hwf : ∀ j o, ops[j]? = some o → ∀ e ∈ o.after, Region.binds md e = true → e.on < j) {listed : Array Bool} (hs : listed.size = ops.size) (hr : Region.ready md ops listed = []) : ∀ j, j < ops.size → listed.getD j false = true := by
 intro j
 induction j using Nat.strongRecOn with
 | ind j ih =>
   intro hj
   cases hl : listed.getD j false with
   | true => rfl
   | false =>
     have : j ∈ Region.ready md ops listed := mem_ready.2 ⟨getD_tf hl (by omega), ops[j], by simp [hj], fun e he hb => by
      have hlt := hwf j ops[j] (by simp [hj]) e he hb
      exact ih e.on hlt (by omega)⟩
     rw [hr] at this; cases this
theorem wpAny_inv (I : Array Bool → Act → World → Prop) (hwf : ∀ j o, ops[j]? = some o → ∀ e ∈ o.after, Region.binds md e = true → e.on < j)
 (hstep : ∀ listed a w j o, I listed a w → listed.size = ops.size → ops[j]? = some o → listed.getD j false = false → (∀ e ∈ o.after, Region.binds md e = true → listed.getD e.on false = true) → Closed md ops listed → wpOp P ops Q j (fun a' w' => I (listed.setIfInBounds j true) a' w') a w)
 (hend : ∀ listed a w, I listed a w → (∀ j, j < ops.size → listed.getD j false = true) → Q .normal a w) :
 ∀ (n : Nat) (listed : Array Bool) (a : Act) (w : World), listed.size = ops.size → Closed md ops listed → leftN ops listed ≤ n → I listed a w → wpAny P md ops Q n listed a w
 | 0, listed, a, w, _, _, hn, hI => by
   have hall : ∀ j, j < ops.size → listed.getD j false = true := fun j hj => by
    cases hl : listed.getD j false with
    | true => rfl
    | false =>
      have : j ∈ (List.range ops.size).filter fun j => !listed.getD j false := List.mem_filter.2 ⟨List.mem_range.2 hj, by rw [hl]; rfl⟩
      have := List.length_pos_of_mem this
      unfold leftN at hn
      omega
   refine ⟨?_, hend _ _ _ hI hall⟩
   apply List.eq_nil_iff_forall_not_mem.2
   intro j hj
   obtain ⟨h0, o, ho, _⟩ := mem_ready.1 hj
   have := hall j (Array.getElem?_eq_some_iff.1 ho).1
   rw [(getD_ft h0).1] at this; cases this
 | n + 1, listed, a, w, hs, hc, hn, hI => by
   refine ⟨fun hr => hend _ _ _ hI (all_listed hwf hs hr), fun j hj => ?_⟩
   obtain ⟨h0, o, ho, hall⟩ := mem_ready.1 hj
   have hjs : j < ops.size := (Array.getElem?_eq_some_iff.1 ho).1
   refine wpOp_mono (fun a' w' h => wpAny_inv I hwf hstep hend n _ a' w' (by simpa using hs) ?_ ?_ h) (hstep listed a w j o hI hs ho (getD_ft h0).1 hall hc)
   ·intro i o' ho' hi e he hb
    by_cases hij : i = j
    ·subst hij
     rw [ho] at ho'; cases ho'
     exact getD_set_true (hall e he hb)
    ·rw [getD_set_ne false (Ne.symm hij)] at hi
     exact getD_set_true (hc i o' ho' hi e he hb)
   ·have := leftN_set (ops := ops) hjs h0
    omega
theorem wp_region_inv {id : Nat} {a : Act} {w : World} (hm : P.follows .mixedOrders = true) (I : Array Bool → Act → World → Prop) (hwf : ∀ j o, ops[j]? = some o → ∀ e ∈ o.after, Region.binds .any e = true → e.on < j)
 (hstep : ∀ listed a w j o, I listed a w → listed.size = ops.size → ops[j]? = some o → listed.getD j false = false → (∀ e ∈ o.after, Region.binds .any e = true → listed.getD e.on false = true) → Closed .any ops listed → wpOp P ops Q j (fun a' w' => I (listed.setIfInBounds j true) a' w') a w)
 (hend : ∀ listed a w, I listed a w → (∀ j, j < ops.size → listed.getD j false = true) → Q .normal a w)
 (h : I (Array.replicate ops.size false) a w.drew) : (Code.region id ops true).wp P Q a w :=
 wp_region_any hm (wpAny_inv I hwf hstep hend _ _ _ _ (by simp) (fun i o _ hi => by
  exfalso
  rcases Nat.lt_or_ge i ops.size with h' | h'
  ·simp [h'] at hi
  ·simp [h'] at hi) (by unfold leftN; exact Nat.le_trans (List.length_filter_le _ _) (by simp)) h)
end
end Go.Proofs.YtabenhpjgjjgnaaGreatDoor
