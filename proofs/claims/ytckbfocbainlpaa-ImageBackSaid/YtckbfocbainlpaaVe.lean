/- obj.Unpack. Condition: what lies in memory can lie there. -/
import Derived.Test.YtckbfocbainlpaaVd
import Derived.RegionTactic
import Derived.ChangeAlike
namespace Go.Proofs.Ytckbfocbainlpaa
open Go.RowKit
set_option maxRecDepth 100000

def nullM : ModL := ⟨[], [], [], 0, []⟩
/-- How Unpack ends. -/
def UnEnd (w : World) (o : Option (ModL × List UInt8)) (e : Ending) (w' : World) : Prop :=
  Below w.heap.size w w' ∧ match o with
  | none => e = .returned (.tuple #[.agg #[.string ⟨#[]⟩, .slice none 0 0, .slice none 0 0, .int .i64 0, .slice none 0 0], .string ⟨#[]⟩, .int .i64 7])
  | some (m, t) => ∃ s w0, e = .returned (.tuple #[modV s m, .string ⟨t.toArray⟩, .int .i64 0]) ∧ w.heap.size ≤ w0.heap.size ∧ Fresh w0 s m w'
theorem unEnd_none {w w' : World} {o : Option (ModL × List UInt8)} (h : o = none) (hb : Below w.heap.size w w') : UnEnd w o (.returned (.tuple #[.agg #[.string ⟨#[]⟩, .slice none 0 0, .slice none 0 0, .int .i64 0, .slice none 0 0], .string ⟨#[]⟩, .int .i64 7])) w' := by
  subst h; exact ⟨hb, rfl⟩
theorem unEnd_some {w w' : World} {o : Option (ModL × List UInt8)} {m : ModL} {t : List UInt8} {s : MS} {w0 : World} (h : o = some (m, t)) (hb : Below w.heap.size w w') (hl : w.heap.size ≤ w0.heap.size) (hI : Fresh w0 s m w') : UnEnd w o (.returned (.tuple #[modV s m, .string ⟨t.toArray⟩, .int .i64 0])) w' := by
  subst h; exact ⟨hb, s, w0, rfl, hl, hI⟩
theorem unpackL_none {s : List UInt8} (h : (modS ⟨s, false⟩).bad = true) : unpackL s = none := by unfold unpackL; rw [h]; rfl
theorem unpackL_some {s : List UInt8} (h : (modS ⟨s, false⟩).bad = false) : unpackL s = some (modM ⟨s, false⟩, (modS ⟨s, false⟩).s) := by unfold unpackL; rw [h]; rfl

set_option maxHeartbeats 2000000 in
theorem unpack_any (s : List UInt8) (hs : s.length ≤ 140737488355328) (w : World) : Calls Try.prog 38 #[.string ⟨s.toArray⟩] w (UnEnd w (unpackL s)) := by
  have HB0 := Lib.hid (((Below.refl w.heap.size w).alloc (Nat.le_refl _) (.cells #[.string ⟨#[]⟩, .slice none 0 0, .slice none 0 0, .int .i64 0, .slice none 0 0] 41)).alloc (by simp) (.cells #[.string ⟨s.toArray⟩, .bool false] 108))
  have HX0 := Lib.hid ((Box.new w #[.string ⟨#[]⟩, .slice none 0 0, .slice none 0 0, .int .i64 0, .slice none 0 0] 41 (by decide)).grow (alloc_below _ (.cells #[.string ⟨s.toArray⟩, .bool false] 108)))
  have HR0 := Lib.hid (show RdAt (w.heap.size + 1) ⟨s, false⟩ ((w.alloc (.cells #[.string ⟨#[]⟩, .slice none 0 0, .slice none 0 0, .int .i64 0, .slice none 0 0] 41)).alloc (.cells #[.string ⟨s.toArray⟩, .bool false] 108)) by
    have := Box.new (w.alloc (.cells #[.string ⟨#[]⟩, .slice none 0 0, .slice none 0 0, .int .i64 0, .slice none 0 0] 41)) #[.string ⟨s.toArray⟩, .bool false] 108 (by decide)
    unfold RdAt
    simpa using this)
  have HN := Lib.hid (unpackL_none (s := s))
  have HS := Lib.hid (unpackL_some (s := s))
  go_enter Try.func38, Try.ntmps38
  go_wp2_with fail
  generalize (w.alloc (.cells #[.string ⟨#[]⟩, .slice none 0 0, .slice none 0 0, .int .i64 0, .slice none 0 0] 41)).alloc (.cells #[.string ⟨s.toArray⟩, .bool false] 108) = w0 at *
  refine (rdModule_any (w.heap.size + 1) ⟨s, false⟩ hs _ HR0.out).mono ?_
  rintro e w1 ⟨ms, rfl, hF, hR, hg⟩
  have HX1 := Lib.hid (HX0.out.other hg (by omega))
  have HB1 := Lib.hid (HB0.out.grown hg HB0.out.size (fun k hk => by injection hk with hk; omega))
  have HF1 := Lib.hid hF
  have HR1 := Lib.hid hR
  have hwl : w.heap.size < w0.heap.size := HX0.out.lt
  have hrl : w.heap.size + 1 < w0.heap.size := Box.lt HR0.out
  clear hF hR hg HX0 HB0 HR0
  generalize modM ⟨s, false⟩ = m at *
  generalize modS ⟨s, false⟩ = q at *
  obtain ⟨t, bad⟩ := q
  simp only at HN HS
  unfold modV
  have HA := Lib.hid (alloc_below w1 (.cells (modCells ms m) 41))
  have g1 : w1.cell? ⟨w.heap.size + 1, 1, none⟩ = some (.bool bad) := (HR1.out.cell 1).trans rfl
  have g0 : w1.cell? ⟨w.heap.size + 1, 0, none⟩ = some (.string ⟨t.toArray⟩) := (HR1.out.cell 0).trans rfl
  have hlt1 := HX1.out.lt
  have hlt2 := Box.lt HR1.out
  have HX2 := Lib.hid (HX1.out.grow HA.out)
  have HB2 := Lib.hid (HB1.out.trans (HA.out.mono (Nat.le_of_lt hlt1)))
  have HF2 := Lib.hid (HF1.out.grow HA.out)
  have HR2 := Lib.hid (HR1.out.other HA.out)
  have HM2 := Lib.hid (Box.new w1 (modCells ms m) 41 (by decide))
  unfold modCells at HX2 HB2 HF2 HR2 HM2
  go_upto_region 3 with (fail)
  generalize w1.alloc (.cells #[.string ⟨m.code.toArray⟩, .slice ms.A1 m.procs.length ms.c1, .slice ms.A2 m.imports.length ms.c2, .int .i64 m.data, .slice ms.A3 m.init.length ms.c3] 41) = w2 at *
  have hq1 : w1.heap.size ≠ w.heap.size := by omega
  generalize w1.heap.size = q at *
  clear g1 g0 HA HX1 HB1 HF1 HR1
  have g1 : w2.cell? ⟨w.heap.size + 1, 1, none⟩ = some (.bool bad) := (HR2.out.cell 1).trans rfl
  have g0 : w2.cell? ⟨w.heap.size + 1, 0, none⟩ = some (.string ⟨t.toArray⟩) := (HR2.out.cell 0).trans rfl
  have c0 : w2.cell? ⟨w.heap.size, 0, none⟩ = some (.string ⟨#[]⟩) := (HX2.out.cell 0).trans rfl
  have fc0 := HX2.out.frozen 0
  have c1 : w2.cell? ⟨w.heap.size, 1, none⟩ = some (.slice none 0 0) := (HX2.out.cell 1).trans rfl
  have fc1 := HX2.out.frozen 1
  have c2 : w2.cell? ⟨w.heap.size, 2, none⟩ = some (.slice none 0 0) := (HX2.out.cell 2).trans rfl
  have fc2 := HX2.out.frozen 2
  have c3 : w2.cell? ⟨w.heap.size, 3, none⟩ = some (.int .i64 0) := (HX2.out.cell 3).trans rfl
  have fc3 := HX2.out.frozen 3
  have c4 : w2.cell? ⟨w.heap.size, 4, none⟩ = some (.slice none 0 0) := (HX2.out.cell 4).trans rfl
  have fc4 := HX2.out.frozen 4
  cases bad
  case true =>
    go_wp2_with fail
    have X0 := Lib.hid ((HX2.out.set 0 (.string ⟨#[]⟩)).to (ds := #[.string ⟨#[]⟩, .slice none 0 0, .slice none 0 0, .int .i64 0, .slice none 0 0]) (by simp))
    have B0 := Lib.hid (HB2.out.setCell (p := ⟨w.heap.size, 0, none⟩) (Nat.le_refl _) (.string ⟨#[]⟩))
    have F0 := Lib.hid (HF2.out.set (p := w.heap.size) (by omega) 0 (.string ⟨#[]⟩))
    have X1 := Lib.hid ((X0.out.set 1 (.slice none 0 0)).to (ds := #[.string ⟨#[]⟩, .slice none 0 0, .slice none 0 0, .int .i64 0, .slice none 0 0]) (by simp))
    have B1 := Lib.hid (B0.out.setCell (p := ⟨w.heap.size, 1, none⟩) (Nat.le_refl _) (.slice none 0 0))
    have F1 := Lib.hid (F0.out.set (p := w.heap.size) (by omega) 1 (.slice none 0 0))
    have X2 := Lib.hid ((X1.out.set 2 (.slice none 0 0)).to (ds := #[.string ⟨#[]⟩, .slice none 0 0, .slice none 0 0, .int .i64 0, .slice none 0 0]) (by simp))
    have B2 := Lib.hid (B1.out.setCell (p := ⟨w.heap.size, 2, none⟩) (Nat.le_refl _) (.slice none 0 0))
    have F2 := Lib.hid (F1.out.set (p := w.heap.size) (by omega) 2 (.slice none 0 0))
    have X3 := Lib.hid ((X2.out.set 3 (.int .i64 0)).to (ds := #[.string ⟨#[]⟩, .slice none 0 0, .slice none 0 0, .int .i64 0, .slice none 0 0]) (by simp))
    have B3 := Lib.hid (B2.out.setCell (p := ⟨w.heap.size, 3, none⟩) (Nat.le_refl _) (.int .i64 0))
    have F3 := Lib.hid (F2.out.set (p := w.heap.size) (by omega) 3 (.int .i64 0))
    have X4 := Lib.hid ((X3.out.set 4 (.slice none 0 0)).to (ds := #[.string ⟨#[]⟩, .slice none 0 0, .slice none 0 0, .int .i64 0, .slice none 0 0]) (by simp))
    have B4 := Lib.hid (B3.out.setCell (p := ⟨w.heap.size, 4, none⟩) (Nat.le_refl _) (.slice none 0 0))
    have F4 := Lib.hid (F3.out.set (p := w.heap.size) (by omega) 4 (.slice none 0 0))
    clear c0 c1 c2 c3 c4 fc0 fc1 fc2 fc3 fc4 g0 g1 HX2 HB2 HF2 HR2 HM2
    generalize World.setCell (World.setCell (World.setCell (World.setCell (World.setCell w2 ⟨w.heap.size, 0, none⟩ (.string ⟨#[]⟩)) ⟨w.heap.size, 1, none⟩ (.slice none 0 0)) ⟨w.heap.size, 2, none⟩ (.slice none 0 0)) ⟨w.heap.size, 3, none⟩ (.int .i64 0)) ⟨w.heap.size, 4, none⟩ (.slice none 0 0) = wz at *
    have c0 : wz.cell? ⟨w.heap.size, 0, none⟩ = some (.string ⟨#[]⟩) := (X4.out.cell 0).trans rfl
    have c1 : wz.cell? ⟨w.heap.size, 1, none⟩ = some (.slice none 0 0) := (X4.out.cell 1).trans rfl
    have c2 : wz.cell? ⟨w.heap.size, 2, none⟩ = some (.slice none 0 0) := (X4.out.cell 2).trans rfl
    have c3 : wz.cell? ⟨w.heap.size, 3, none⟩ = some (.int .i64 0) := (X4.out.cell 3).trans rfl
    have c4 : wz.cell? ⟨w.heap.size, 4, none⟩ = some (.slice none 0 0) := (X4.out.cell 4).trans rfl
    refine bodyPost_ret (v := .tuple #[.agg #[.string ⟨#[]⟩, .slice none 0 0, .slice none 0 0, .int .i64 0, .slice none 0 0], .string ⟨#[]⟩, .int .i64 7]) (by simp [results, Try.results38, go_sem, c0, c1, c2, c3, c4]) rfl ?_
    exact unEnd_none (HN.out (by first | rfl | trivial)) B4.out
  case false =>
    have m0 : w2.cell? ⟨q, 0, none⟩ = some (.string ⟨m.code.toArray⟩) := (HM2.out.cell 0).trans rfl
    have m1 : w2.cell? ⟨q, 1, none⟩ = some (.slice ms.A1 m.procs.length ms.c1) := (HM2.out.cell 1).trans rfl
    have m2 : w2.cell? ⟨q, 2, none⟩ = some (.slice ms.A2 m.imports.length ms.c2) := (HM2.out.cell 2).trans rfl
    have m3 : w2.cell? ⟨q, 3, none⟩ = some (.int .i64 m.data) := (HM2.out.cell 3).trans rfl
    have m4 : w2.cell? ⟨q, 4, none⟩ = some (.slice ms.A3 m.init.length ms.c3) := (HM2.out.cell 4).trans rfl
    go_wp2_with fail
    go_region
    have X0 := Lib.hid ((HX2.out.set 0 (.string ⟨m.code.toArray⟩)).to (ds := #[.string ⟨m.code.toArray⟩, .slice none 0 0, .slice none 0 0, .int .i64 0, .slice none 0 0]) (by simp))
    have B0 := Lib.hid (HB2.out.setCell (p := ⟨w.heap.size, 0, none⟩) (Nat.le_refl _) (.string ⟨m.code.toArray⟩))
    have F0 := Lib.hid (HF2.out.set (p := w.heap.size) (by omega) 0 (.string ⟨m.code.toArray⟩))
    have X1 := Lib.hid ((X0.out.set 1 (.slice ms.A1 m.procs.length ms.c1)).to (ds := #[.string ⟨m.code.toArray⟩, .slice ms.A1 m.procs.length ms.c1, .slice none 0 0, .int .i64 0, .slice none 0 0]) (by simp))
    have B1 := Lib.hid (B0.out.setCell (p := ⟨w.heap.size, 1, none⟩) (Nat.le_refl _) (.slice ms.A1 m.procs.length ms.c1))
    have F1 := Lib.hid (F0.out.set (p := w.heap.size) (by omega) 1 (.slice ms.A1 m.procs.length ms.c1))
    have X2 := Lib.hid ((X1.out.set 2 (.slice ms.A2 m.imports.length ms.c2)).to (ds := #[.string ⟨m.code.toArray⟩, .slice ms.A1 m.procs.length ms.c1, .slice ms.A2 m.imports.length ms.c2, .int .i64 0, .slice none 0 0]) (by simp))
    have B2 := Lib.hid (B1.out.setCell (p := ⟨w.heap.size, 2, none⟩) (Nat.le_refl _) (.slice ms.A2 m.imports.length ms.c2))
    have F2 := Lib.hid (F1.out.set (p := w.heap.size) (by omega) 2 (.slice ms.A2 m.imports.length ms.c2))
    have X3 := Lib.hid ((X2.out.set 3 (.int .i64 m.data)).to (ds := #[.string ⟨m.code.toArray⟩, .slice ms.A1 m.procs.length ms.c1, .slice ms.A2 m.imports.length ms.c2, .int .i64 m.data, .slice none 0 0]) (by simp))
    have B3 := Lib.hid (B2.out.setCell (p := ⟨w.heap.size, 3, none⟩) (Nat.le_refl _) (.int .i64 m.data))
    have F3 := Lib.hid (F2.out.set (p := w.heap.size) (by omega) 3 (.int .i64 m.data))
    have X4 := Lib.hid ((X3.out.set 4 (.slice ms.A3 m.init.length ms.c3)).to (ds := #[.string ⟨m.code.toArray⟩, .slice ms.A1 m.procs.length ms.c1, .slice ms.A2 m.imports.length ms.c2, .int .i64 m.data, .slice ms.A3 m.init.length ms.c3]) (by simp))
    have B4 := Lib.hid (B3.out.setCell (p := ⟨w.heap.size, 4, none⟩) (Nat.le_refl _) (.slice ms.A3 m.init.length ms.c3))
    have F4 := Lib.hid (F3.out.set (p := w.heap.size) (by omega) 4 (.slice ms.A3 m.init.length ms.c3))
    clear c0 c1 c2 c3 c4 fc0 fc1 fc2 fc3 fc4 g0 g1 m0 m1 m2 m3 m4 HX2 HB2 HF2 HR2 HM2
    generalize World.setCell (World.setCell (World.setCell (World.setCell (World.setCell w2 ⟨w.heap.size, 0, none⟩ (.string ⟨m.code.toArray⟩)) ⟨w.heap.size, 1, none⟩ (.slice ms.A1 m.procs.length ms.c1)) ⟨w.heap.size, 2, none⟩ (.slice ms.A2 m.imports.length ms.c2)) ⟨w.heap.size, 3, none⟩ (.int .i64 m.data)) ⟨w.heap.size, 4, none⟩ (.slice ms.A3 m.init.length ms.c3) = wz at *
    have c0 : wz.cell? ⟨w.heap.size, 0, none⟩ = some (.string ⟨m.code.toArray⟩) := (X4.out.cell 0).trans rfl
    have c1 : wz.cell? ⟨w.heap.size, 1, none⟩ = some (.slice ms.A1 m.procs.length ms.c1) := (X4.out.cell 1).trans rfl
    have c2 : wz.cell? ⟨w.heap.size, 2, none⟩ = some (.slice ms.A2 m.imports.length ms.c2) := (X4.out.cell 2).trans rfl
    have c3 : wz.cell? ⟨w.heap.size, 3, none⟩ = some (.int .i64 m.data) := (X4.out.cell 3).trans rfl
    have c4 : wz.cell? ⟨w.heap.size, 4, none⟩ = some (.slice ms.A3 m.init.length ms.c3) := (X4.out.cell 4).trans rfl
    go_wp2_with fail
    refine bodyPost_ret (v := .tuple #[.agg #[.string ⟨m.code.toArray⟩, .slice ms.A1 m.procs.length ms.c1, .slice ms.A2 m.imports.length ms.c2, .int .i64 m.data, .slice ms.A3 m.init.length ms.c3], .string ⟨t.toArray⟩, .int .i64 0]) (by simp [results, Try.results38, go_sem, c0, c1, c2, c3, c4]) rfl ?_
    exact unEnd_some (s := ms) (HS.out (by first | rfl | trivial)) (B4.out.trans ((drew_below wz).mono B4.out.size)) (Nat.le_of_lt hwl) (F4.out.grow (drew_below wz))
end Go.Proofs.Ytckbfocbainlpaa
