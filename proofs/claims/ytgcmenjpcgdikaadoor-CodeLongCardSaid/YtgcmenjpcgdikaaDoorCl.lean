/- What holds of memory while code.Decode reads; its reader at that. -/
import Derived.Test.YtgcmenjpcgdikaaDoorCk
namespace Go.Proofs.YtgcmenjpcgdikaaDoor
open Go.RowKit
set_option maxRecDepth 100000

/-- Block b is one cell, of type t, that holds v. -/
def OneB (w : World) (b : Nat) (v : Value) (t : TypeId) : Prop := w.heap[b]? = some (.cells #[v] t (0, 0))
theorem OneB.cell {w : World} {b : Nat} {v : Value} {t : TypeId} (h : OneB w b v t) : w.cell? ⟨b, 0, none⟩ = some v := by
  unfold World.cell?; rw [h]; rfl
theorem OneB.frozen {w : World} {b : Nat} {v : Value} {t : TypeId} (h : OneB w b v t) : w.frozen? ⟨b, 0, none⟩ = false := by
  unfold World.frozen?; rw [h]; rfl
theorem OneB.set {w : World} {b : Nat} {v : Value} {t : TypeId} (h : OneB w b v t) (u : Value) : OneB (w.setCell ⟨b, 0, none⟩ u) b u t := by
  unfold OneB at h ⊢
  simp [World.setCell, Array.getElem?_modify, h]
theorem OneB.far {w : World} {b : Nat} {v : Value} {t : TypeId} (h : OneB w b v t) {p : Addr} (hp : b ≠ p.block) (u : Value) : OneB (w.setCell p u) b v t := (Below.heap_setCell w p u b hp).trans h
theorem OneB.below {w w' : World} {b : Nat} {v : Value} {t : TypeId} {B : Nat} (h : OneB w b v t) (hb : Below B w w') (hB : b < B) : OneB w' b v t := (hb.block b hB).trans h
theorem OneB.lt {w : World} {b : Nat} {v : Value} {t : TypeId} (h : OneB w b v t) : b < w.heap.size := lt_of_get h

/-- What holds of memory while Decode reads: the box of the text; the instruction, whose numbers lie in memory of its own; the next place; whether it has failed; the kinds. -/
structure DecInv (w : World) (s : List UInt8) (op bb m : Nat) (v : Value) (args : List Int) (nx : Nat) (bad : Bool) (wr : World) : Prop where
  box : OneB wr w.heap.size (.string ⟨s.toArray⟩) 9
  ins : wr.heap[w.heap.size + 1]? = some (.cells #[.int .u8 op, v] 25 (0, 0))
  own : wr.ownsRow w.heap.size 3 1 v args.length (args.map (Value.int .i64))
  far : v.ownBlock ≠ some (w.heap.size + 2)
  next : OneB wr (w.heap.size + 2) (.int .i64 nx) 3
  fail : OneB wr bb (.bool bad) 4
  kinds : wr.heap[m]? = some (.map numEntries 3)
  old : Below w.heap.size w wr

theorem own_set {w : World} {B : Nat} {e : TypeId} {size : Nat} {v : Value} {n : Nat} {xs : List Value} (h : w.ownsRow B e size v n xs) (p : Addr) (u : Value) (hp : v.ownBlock ≠ some p.block) : (w.setCell p u).ownsRow B e size v n xs := by
  refine ⟨h.1, ?_⟩
  rcases h.2 with hn | ⟨g, cap, cur, rfl, hB, hgg, rest⟩
  · exact .inl hn
  · exact .inr ⟨g, cap, cur, rfl, hB, (Below.heap_setCell w p u g (fun e => hp (by simp [Value.ownBlock, e]))).trans hgg, rest⟩
theorem own_type_ne {w : World} {B : Nat} {e : TypeId} {size : Nat} {v : Value} {n : Nat} {xs : List Value} (h : w.ownsRow B e size v n xs) {b : Nat} {cs : Array Value} {t : TypeId} (hb : w.heap[b]? = some (.cells cs t (0, 0))) (hne : e ≠ t) : v.ownBlock ≠ some b := by
  rcases h.2 with ⟨rfl, _⟩ | ⟨g, cap, cur, rfl, _, hh, _⟩
  · simp [Value.ownBlock]
  · intro he
    have : g = b := by simpa [Value.ownBlock] using he
    subst this
    rw [hh] at hb
    injection hb with hb
    injection hb with _ ht
    exact hne ht

theorem DecInv.later {w wr wx : World} {s : List UInt8} {op bb m : Nat} {v : Value} {args : List Int} {nx : Nat} {bad : Bool} (h : DecInv w s op bb m v args nx bad wr) (hb : Below wr.heap.size wr wx) : DecInv w s op bb m v args nx bad wx :=
  ⟨h.box.below hb h.box.lt, (hb.block _ (lt_of_get h.ins)).trans h.ins, own_later h.own hb, h.far, h.next.below hb h.next.lt, h.fail.below hb h.fail.lt, (hb.block _ (lt_of_get h.kinds)).trans h.kinds,
    h.old.trans (hb.mono h.old.size)⟩
theorem DecInv.setNext {w wr : World} {s : List UInt8} {op bb m : Nat} {v : Value} {args : List Int} {nx : Nat} {bad : Bool} (h : DecInv w s op bb m v args nx bad wr) (hbb : bb ≠ w.heap.size + 2) (hm : m ≠ w.heap.size + 2) (nx' : Nat) :
    DecInv w s op bb m v args nx' bad (wr.setCell ⟨w.heap.size + 2, 0, none⟩ (.int .i64 nx')) :=
  ⟨h.box.far (by simp) _, (Below.heap_setCell _ _ _ _ (by simp)).trans h.ins, own_set h.own _ _ h.far, h.far, h.next.set _, h.fail.far (by simpa using hbb) _, (Below.heap_setCell _ _ _ _ (by simpa using hm)).trans h.kinds,
    h.old.setCell (by simp) _⟩
theorem DecInv.setFail {w wr : World} {s : List UInt8} {op bb m : Nat} {v : Value} {args : List Int} {nx : Nat} {bad : Bool} (h : DecInv w s op bb m v args nx bad wr) (hbb : w.heap.size + 2 < bb) (hm : m ≠ bb) (bad' : Bool) :
    DecInv w s op bb m v args nx bad' (wr.setCell ⟨bb, 0, none⟩ (.bool bad')) :=
  ⟨h.box.far (by simp; omega) _, (Below.heap_setCell _ _ _ _ (by simp; omega)).trans h.ins, own_set h.own _ _ (own_type_ne h.own h.fail (by decide)), h.far, h.next.far (by simp; omega) _, h.fail.set _, (Below.heap_setCell _ _ _ _ (by simpa using hm)).trans h.kinds,
    h.old.setCell (by simp; omega) _⟩

theorem DecInv.cell1 {w wr : World} {s : List UInt8} {op bb m : Nat} {v : Value} {args : List Int} {nx : Nat} {bad : Bool} (h : DecInv w s op bb m v args nx bad wr) : wr.cell? ⟨w.heap.size + 1, 1, none⟩ = some v := by
  unfold World.cell?; rw [h.ins]; rfl
theorem cell_ins1 {w : World} {b : Nat} {x v : Value} {t : TypeId} (h : w.heap[b]? = some (.cells #[x, v] t (0, 0))) : w.cell? ⟨b, 1, none⟩ = some v := by
  unfold World.cell?; rw [h]; rfl
theorem frozen_ins1 {w : World} {b : Nat} {x v : Value} {t : TypeId} (h : w.heap[b]? = some (.cells #[x, v] t (0, 0))) : w.frozen? ⟨b, 1, none⟩ = false := by
  unfold World.frozen?; rw [h]; simp
theorem below_undrew {w w' : World} (h : Below w.drew.heap.size w.drew w') : Below w.heap.size w w' := ⟨h.os, h.tape, h.output, h.size, h.block⟩
/-- How the reader ends, at that. -/
def ReadD (w : World) (s : List UInt8) (op bb m : Nat) (v : Value) (args : List Int) (nx : Nat) (bad : Bool) (x : Int) (e : Ending) (wx : World) : Prop := e = .returned (.int .i64 x) ∧ DecInv w s op bb m v args nx bad wx

theorem sizeK_N (c : UInt8) : sizeK c = ((sizeN c : Nat) : Int) := by unfold sizeK sizeN; split <;> rfl
theorem readD_bad (c : UInt8) (w wr : World) (s : List UInt8) (op bb m : Nat) (v : Value) (args : List Int) (nx : Nat) (bad : Bool) (h : DecInv w s op bb m v args nx bad wr) (hbb : w.heap.size + 2 < bb) (hm : m ≠ bb) (hs : s.length ≤ 4294967296) (hn : nx ≤ s.length)
    (hf : failsB c s nx bad = true) :
    Calls Tryd.prog 26 #[.agg #[.int .i64 (lowK c), .int .i64 (highK c), .int .i64 (sizeK c)], .pointer (some ⟨bb, 0, none⟩), .pointer (some ⟨w.heap.size, 0, none⟩), .pointer (some ⟨w.heap.size + 2, 0, none⟩)] wr
      (ReadD w s op bb m v args nx true 0) := by
  refine (read_bad _ _ _ bb _ _ s nx bad wr ?_ hs hn h.fail.cell h.box.cell h.next.cell h.fail.frozen h.fail.lt h.box.lt h.next.lt).mono ?_
  · unfold failsB at hf
    simp only [Bool.or_eq_true, decide_eq_true_eq] at hf
    rcases hf with hf | hf
    · exact .inl hf
    · exact .inr (by rw [sizeK_N]; omega)
  · rintro e wx ⟨rfl, hb⟩
    exact ⟨rfl, (h.setFail hbb hm true).later (hb.mono (by simp))⟩
theorem readD_ok (c : UInt8) (hc : letter c) (w wr : World) (s : List UInt8) (op bb m : Nat) (v : Value) (args : List Int) (nx : Nat) (bad : Bool) (h : DecInv w s op bb m v args nx bad wr) (hbb : w.heap.size + 2 < bb) (hm : m ≠ w.heap.size + 2) (hs : s.length ≤ 4294967296)
    (hf : failsB c s nx bad = false) :
    Calls Tryd.prog 26 #[.agg #[.int .i64 (lowK c), .int .i64 (highK c), .int .i64 (sizeK c)], .pointer (some ⟨bb, 0, none⟩), .pointer (some ⟨w.heap.size, 0, none⟩), .pointer (some ⟨w.heap.size + 2, 0, none⟩)] wr
      (ReadD w s op bb m v args (nx + sizeN c) bad (readN c s nx)) := by
  unfold failsB at hf
  simp only [Bool.or_eq_false_iff, decide_eq_false_iff_not] at hf
  obtain ⟨hbad, hfit⟩ := hf
  rw [sizeK_N]
  have hz : sizeN c = 1 ∨ sizeN c = 2 := by unfold sizeN; split <;> simp
  have hk : 0 ≤ highK c ∧ highK c ≤ 65535 := by unfold highK; split <;> (try split) <;> omega
  have hfail : wr.cell? ⟨bb, 0, none⟩ = some (.bool false) := by rw [h.fail.cell, hbad]
  refine (read_ok (lowK c) (highK c) (sizeN c) hz bb _ _ s nx wr hs (by omega) hk.1 hk.2 hfail h.box.cell h.next.cell h.fail.frozen h.next.frozen h.fail.lt h.box.lt h.next.lt _ _ rfl rfl (readN c s nx) ?_).mono ?_
  · have b0 := (s.getD nx 0).toNat_lt
    rcases hc with rfl | rfl | rfl
    · show ((s.getD nx 0).toNat : Int) = if (255 : Int) < ((s.getD nx 0).toNat : Int) then _ else ((s.getD nx 0).toNat : Int)
      rw [if_neg (by omega)]
    · rfl
    · rfl
  · rintro e wx ⟨rfl, hb⟩
    exact ⟨rfl, (h.setNext (by omega) hm _).later (hb.mono (by simp))⟩
theorem readD_any (c : UInt8) (hc : letter c) (w wr : World) (s : List UInt8) (op bb m : Nat) (v : Value) (args : List Int) (nx : Nat) (bad : Bool) (h : DecInv w s op bb m v args nx bad wr) (hbb : w.heap.size + 2 < bb) (hm : bb < m) (hs : s.length ≤ 4294967296) (hn : nx ≤ s.length) :
    Calls Tryd.prog 26 #[.agg #[.int .i64 (lowK c), .int .i64 (highK c), .int .i64 (sizeK c)], .pointer (some ⟨bb, 0, none⟩), .pointer (some ⟨w.heap.size, 0, none⟩), .pointer (some ⟨w.heap.size + 2, 0, none⟩)] wr
      (ReadD w s op bb m v args (readX c s nx bad).2.1 (readX c s nx bad).2.2 (readX c s nx bad).1) := by
  unfold readX
  by_cases hf : failsB c s nx bad = true
  · rw [if_pos hf]
    exact readD_bad c w wr s op bb m v args nx bad h hbb (by omega) hs hn hf
  · rw [if_neg hf]
    exact readD_ok c hc w wr s op bb m v args nx bad h hbb (by omega) hs (by simpa using hf)

theorem readD_byte (w wr : World) (s : List UInt8) (op bb m : Nat) (v : Value) (args : List Int) (nx : Nat) (bad : Bool) (h : DecInv w s op bb m v args nx bad wr) (hbb : w.heap.size + 2 < bb) (hm : bb < m) (hs : s.length ≤ 4294967296) (hn : nx ≤ s.length) :
    Calls Tryd.prog 26 #[.agg #[.int .i64 0, .int .i64 255, .int .i64 1], .pointer (some ⟨bb, 0, none⟩), .pointer (some ⟨w.heap.size, 0, none⟩), .pointer (some ⟨w.heap.size + 1 + 1, 0, none⟩)] wr
      (ReadD w s op bb m v args (readX 66 s nx bad).2.1 (readX 66 s nx bad).2.2 (readX 66 s nx bad).1) := readD_any 66 (.inl rfl) w wr s op bb m v args nx bad h hbb hm hs hn
theorem DecInv.cells {w wr : World} {s : List UInt8} {op bb m : Nat} {v : Value} {args : List Int} {nx : Nat} {bad : Bool} (h : DecInv w s op bb m v args nx bad wr) :
    wr.cell? ⟨w.heap.size + 1, 0, none⟩ = some (.int .u8 op) ∧ wr.cell? ⟨w.heap.size + 1, 1, none⟩ = some v ∧ wr.cell? ⟨w.heap.size + 1 + 1, 0, none⟩ = some (.int .i64 nx) ∧
      wr.frozen? ⟨w.heap.size + 1, 0, none⟩ = false ∧ wr.frozen? ⟨w.heap.size + 1, 1, none⟩ = false ∧ wr.frozen? ⟨w.heap.size + 1 + 1, 0, none⟩ = false ∧ w.heap.size + 1 < wr.heap.size ∧ w.heap.size + 1 + 1 < wr.heap.size := by
  refine ⟨?_, h.cell1, h.next.cell, ?_, frozen_ins1 h.ins, h.next.frozen, lt_of_get h.ins, h.next.lt⟩
  · unfold World.cell?; rw [h.ins]; rfl
  · unfold World.frozen?; rw [h.ins]; rfl
/-- One number more, put behind the others in memory of the call's own; then stored. -/
theorem DecInv.append {w w6 w7 : World} {s : List UInt8} {op bb m : Nat} {v : Value} {args : List Int} {nx : Nat} {bad : Bool} {x : Int} {g cap : Nat} (h : DecInv w s op bb m v args nx bad w6) (o : Obj)
    (hown : w7.ownsRow w.heap.size 3 1 (.slice (some ⟨g, 0, none⟩) (args.length + 1) cap) (args.length + 1) (args.map (Value.int .i64) ++ [.int .i64 x])) (hg : (w6.alloc o).grownBy w7 v.ownBlock) (hat : v.ownBlock = some g ∨ g = w6.heap.size + 1) :
    w7.heap[w.heap.size + 1]? = some (.cells #[.int .u8 op, v] 25 (0, 0)) ∧
    DecInv w s op bb m (.slice (some ⟨g, 0, none⟩) (args.length + 1) cap) (args ++ [x]) nx bad (w7.setCell ⟨w.heap.size + 1, 1, none⟩ (.slice (some ⟨g, 0, none⟩) (args.length + 1) cap)) := by
  have hw6 : w.heap.size + 2 < w6.heap.size := h.next.lt
  have keep : ∀ (b : Nat) (o' : Obj), w6.heap[b]? = some o' → v.ownBlock ≠ some b → w7.heap[b]? = some o' := fun b o' hb hne =>
    (hg.block b (by simp; have := lt_of_get hb; omega) (fun e => hne e.symm)).trans ((Below.heap_alloc w6 o b (lt_of_get hb)).trans hb)
  have k1 := keep _ _ h.ins (own_type_ne h.own h.ins (by decide))
  have hgv : g ≠ w.heap.size + 2 := by
    rcases hat with e | e
    · intro e2; exact h.far (by rw [e, e2])
    · omega
  have hgi : g ≠ w.heap.size + 1 := by
    intro e2
    exact own_type_ne hown k1 (by decide) (by simp [Value.ownBlock, e2])
  have hold : Below w.heap.size w w7 := by
    refine (h.old.alloc h.old.size o).grown hg (by have := h.old.size; simp; omega) ?_
    intro b hb
    rcases h.own.2 with ⟨rfl, _⟩ | ⟨g', cap', cur, rfl, hB, _⟩
    · simp [Value.ownBlock] at hb
    · have : g' = b := by simpa [Value.ownBlock] using hb
      omega
  have hmap : (.int .i64 x : Value) = Value.int .i64 x := rfl
  refine ⟨k1, ?_, ?_, ?_, by simp [Value.ownBlock, hgv], ?_, ?_, ?_, hold.setCell (by simp) _⟩
  · exact OneB.far (keep _ _ h.box (own_type_ne h.own h.box (by decide))) (by simp) _
  · have := k1
    simp [World.setCell, Array.getElem?_modify, this]
  · have h2 := own_set hown ⟨w.heap.size + 1, 1, none⟩ (.slice (some ⟨g, 0, none⟩) (args.length + 1) cap) (by simp [Value.ownBlock, hgi])
    simpa using h2
  · exact OneB.far (keep _ _ h.next h.far) (by simp) _
  · have hf : w.heap.size + 1 ≠ bb := by
      intro e
      have h1 := h.ins
      rw [e] at h1
      have h2 := h.fail
      unfold OneB at h2
      rw [h1] at h2
      simp at h2
    exact OneB.far (keep _ _ h.fail (own_type_ne h.own h.fail (by decide))) (by simpa using hf.symm) _
  · have hm : w.heap.size + 1 ≠ m := by
      intro e
      have h1 := h.ins
      rw [e, h.kinds] at h1
      simp at h1
    have hv : v.ownBlock ≠ some m := by
      rcases h.own.2 with ⟨rfl, _⟩ | ⟨g', cap', cur, rfl, _, hh, _⟩
      · simp [Value.ownBlock]
      · intro he
        have : g' = m := by simpa [Value.ownBlock] using he
        subst this
        rw [h.kinds] at hh
        simp at hh
    exact (Below.heap_setCell _ _ _ _ (by simpa using hm.symm)).trans (keep _ _ h.kinds hv)
end Go.Proofs.YtgcmenjpcgdikaaDoor
