/- separatumref21.Unpack. Condition: what lies in memory can lie there. -/
import Derived.Test.YtckbfocbainlpaaTb
import Derived.RegionTactic
import Derived.ChangeAlike
namespace Go.Proofs.Ytckbfocbainlpaa
open Go.RowKit
set_option maxRecDepth 100000

theorem rfun_ret {w W : World} {R : Ending → World → Prop} {u0 u1 u2 u3 u4 : Value} {t : ByteArray} {er : Int} {c : Array Value} (hX : Box w.heap.size #[u0, u1, u2, u3, u4] 41 W) (h2 : c.getD 2 undef = .pointer (some ⟨w.heap.size, 0, none⟩)) (h3 : c.getD 3 undef = .string t) (h4 : c.getD 4 undef = .int .i64 er)
    (hR : R (.returned (.tuple #[.agg #[u0, u1, u2, u3, u4], .string t, .int .i64 er])) W) : bodyPost Try.prog Try.f39 R .ret { tmps := c, defers := [] } W := by
  have c0 : W.cell? ⟨w.heap.size, 0, none⟩ = some u0 := (hX.cell 0).trans rfl
  have c1 : W.cell? ⟨w.heap.size, 1, none⟩ = some u1 := (hX.cell 1).trans rfl
  have c2 : W.cell? ⟨w.heap.size, 2, none⟩ = some u2 := (hX.cell 2).trans rfl
  have c3 : W.cell? ⟨w.heap.size, 3, none⟩ = some u3 := (hX.cell 3).trans rfl
  have c4 : W.cell? ⟨w.heap.size, 4, none⟩ = some u4 := (hX.cell 4).trans rfl
  refine bodyPost_ret (v := .tuple #[.agg #[u0, u1, u2, u3, u4], .string t, .int .i64 er]) ?_ rfl hR
  have h2' : c[2]?.getD undef = .pointer (some ⟨w.heap.size, 0, none⟩) := by simpa using h2
  have h3' : c[3]?.getD undef = .string t := by simpa using h3
  have h4' : c[4]?.getD undef = .int .i64 er := by simpa using h4
  simp only [results, Try.results39]
  simp [go_sem, h2', h3', h4', c0, c1, c2, c3, c4]
theorem Fresh.put5 {w : World} {s : MS} {m : ModL} {W : World} (h : Fresh w s m W) {p : Nat} (hp : p < w.heap.size + 1) (u0 u1 u2 u3 u4 : Value) : Fresh w s m (put5 W p u0 u1 u2 u3 u4) := ⟨h.rows.put5 hp u0 u1 u2 u3 u4, h.words, h.l0, h.l1, h.l2, h.l3⟩
theorem below_put5 {B : Nat} {w W : World} (h : Below B w W) {k : Nat} (hk : B ≤ k) (u0 u1 u2 u3 u4 : Value) : Below B w (put5 W k u0 u1 u2 u3 u4) :=
  ((((h.setCell (p := ⟨k, 0, none⟩) hk u0).setCell (p := ⟨k, 1, none⟩) hk u1).setCell (p := ⟨k, 2, none⟩) hk u2).setCell (p := ⟨k, 3, none⟩) hk u3).setCell (p := ⟨k, 4, none⟩) hk u4

set_option maxHeartbeats 2000000 in
theorem refUnpack_any (s : List UInt8) (hs : s.length ≤ 140737488355328) (w : World) : Calls Try.prog 39 #[.string ⟨s.toArray⟩] w (UnEnd w (unpackL s)) := by
  have HB0 := Lib.hid (((Below.refl w.heap.size w).alloc (Nat.le_refl _) (.cells #[.string ⟨#[]⟩, .slice none 0 0, .slice none 0 0, .int .i64 0, .slice none 0 0] 41)).alloc (by simp) (.cells #[.string ⟨s.toArray⟩, .int .i64 0, .bool false] 112))
  have HX0 := Lib.hid ((Box.new w #[.string ⟨#[]⟩, .slice none 0 0, .slice none 0 0, .int .i64 0, .slice none 0 0] 41 (by decide)).grow (alloc_below _ (.cells #[.string ⟨s.toArray⟩, .int .i64 0, .bool false] 112)))
  have HR0 := Lib.hid (show RfAt (w.heap.size + 1) s ⟨s, false⟩ ((w.alloc (.cells #[.string ⟨#[]⟩, .slice none 0 0, .slice none 0 0, .int .i64 0, .slice none 0 0] 41)).alloc (.cells #[.string ⟨s.toArray⟩, .int .i64 0, .bool false] 112)) by
    have := Box.new (w.alloc (.cells #[.string ⟨#[]⟩, .slice none 0 0, .slice none 0 0, .int .i64 0, .slice none 0 0] 41)) #[.string ⟨s.toArray⟩, .int .i64 0, .bool false] 112 (by decide)
    exact ⟨0, by simpa using this, by omega, rfl⟩)
  have HN := Lib.hid (unpackL_none (s := s))
  have HS := Lib.hid (unpackL_some (s := s))
  go_enter Try.func39, Try.ntmps39
  go_wp2_with fail
  generalize (w.alloc (.cells #[.string ⟨#[]⟩, .slice none 0 0, .slice none 0 0, .int .i64 0, .slice none 0 0] 41)).alloc (.cells #[.string ⟨s.toArray⟩, .int .i64 0, .bool false] 112) = w0 at *
  refine (refRdModule_any (w.heap.size + 1) s ⟨s, false⟩ hs _ HR0.out).mono ?_
  rintro e w1 ⟨ms, rfl, hF, hR, hg⟩
  have HX1 := Lib.hid (HX0.out.other hg (by omega))
  have HB1 := Lib.hid (HB0.out.grown hg HB0.out.size (fun k hk => by injection hk with hk; omega))
  have HF1 := Lib.hid hF
  have HR1 := Lib.hid hR
  have hwl : w.heap.size < w0.heap.size := HX0.out.lt
  have hrl : w.heap.size + 1 < w0.heap.size := RfAt.lt HR0.out
  clear hF hR hg HX0 HB0 HR0
  generalize modM ⟨s, false⟩ = m at *
  generalize modS ⟨s, false⟩ = q at *
  obtain ⟨t, bad⟩ := q
  simp only at HN HS
  unfold modV
  have HA := Lib.hid (alloc_below w1 (.cells #[.string ⟨m.code.toArray⟩, .slice ms.A1 m.procs.length ms.c1, .slice ms.A2 m.imports.length ms.c2, .int .i64 m.data, .slice ms.A3 m.init.length ms.c3] 41))
  have hlt1 := HX1.out.lt
  have hlt2 := RfAt.lt HR1.out
  have HX2 := Lib.hid (HX1.out.grow HA.out)
  have HB2 := Lib.hid (HB1.out.trans (HA.out.mono (Nat.le_of_lt hlt1)))
  have HF2 := Lib.hid (HF1.out.grow HA.out)
  have HR2 := Lib.hid (HR1.out.grow HA.out)
  have HM2 := Lib.hid (Box.new w1 #[.string ⟨m.code.toArray⟩, .slice ms.A1 m.procs.length ms.c1, .slice ms.A2 m.imports.length ms.c2, .int .i64 m.data, .slice ms.A3 m.init.length ms.c3] 41 (by decide))
  go_upto_region 3 with (fail)
  generalize w1.alloc (.cells #[.string ⟨m.code.toArray⟩, .slice ms.A1 m.procs.length ms.c1, .slice ms.A2 m.imports.length ms.c2, .int .i64 m.data, .slice ms.A3 m.init.length ms.c3] 41) = w2 at *
  have hq1 : w1.heap.size ≠ w.heap.size := by omega
  generalize w1.heap.size = q at *
  clear HA HX1 HB1 HF1 HR1
  obtain ⟨p, hRB, hp, hq⟩ := HR2.out
  simp only at hRB hq
  have HQ := Lib.hid hq
  have g0 : w2.cell? ⟨w.heap.size + 1, 0, none⟩ = some (.string ⟨s.toArray⟩) := (hRB.cell 0).trans rfl
  have g1 : w2.cell? ⟨w.heap.size + 1, 1, none⟩ = some (.int .i64 p) := (hRB.cell 1).trans rfl
  have g2 : w2.cell? ⟨w.heap.size + 1, 2, none⟩ = some (.bool bad) := (hRB.cell 2).trans rfl
  have c0 : w2.cell? ⟨w.heap.size, 0, none⟩ = some (.string ⟨#[]⟩) := (HX2.out.cell 0).trans rfl
  have fc0 := HX2.out.frozen 0
  have c1 : w2.cell? ⟨w.heap.size, 1, none⟩ = some (.slice none 0 0) := (HX2.out.cell 1).trans rfl
  have fc1 := HX2.out.frozen 1
  have c2 : w2.cell? ⟨w.heap.size, 2, none⟩ = some (.slice none 0 0) := (HX2.out.cell 2).trans rfl
  have fc2 := HX2.out.frozen 2
  have c3 : w2.cell? ⟨w.heap.size, 3, none⟩ = some (.int .i64 0) := (HX2.out.cell 3).trans rfl
  have fc3 := HX2.out.frozen 3
  have c4 : w2.cell? ⟨w.heap.size, 4, none⟩ = some (.slice none 0 0) := (HX2.out.cell 4).trans rfl
  have fc4 := HX2.out.frozen 4
  have hpI : (p : Int) ≤ (s.length : Int) := by omega
  clear hq hRB HR2
  cases bad
  case true =>
    go_wp2_with fail
    exact rfun_ret (HX2.out.put5 _ _ _ _ _) rfl rfl rfl (unEnd_none (HN.out (by first | rfl | trivial)) (below_put5 HB2.out (Nat.le_refl _) _ _ _ _ _))
  case false =>
    have m0 : w2.cell? ⟨q, 0, none⟩ = some (.string ⟨m.code.toArray⟩) := (HM2.out.cell 0).trans rfl
    have m1 : w2.cell? ⟨q, 1, none⟩ = some (.slice ms.A1 m.procs.length ms.c1) := (HM2.out.cell 1).trans rfl
    have m2 : w2.cell? ⟨q, 2, none⟩ = some (.slice ms.A2 m.imports.length ms.c2) := (HM2.out.cell 2).trans rfl
    have m3 : w2.cell? ⟨q, 3, none⟩ = some (.int .i64 m.data) := (HM2.out.cell 3).trans rfl
    have m4 : w2.cell? ⟨q, 4, none⟩ = some (.slice ms.A3 m.init.length ms.c3) := (HM2.out.cell 4).trans rfl
    have xd := ext_drop s p
    rw [← HQ.out] at xd
    go_wp2_with fail
    go_region
    have HXf := Lib.hid ((HX2.out.put5 (.string ⟨m.code.toArray⟩) (.slice ms.A1 m.procs.length ms.c1) (.slice ms.A2 m.imports.length ms.c2) (.int .i64 m.data) (.slice ms.A3 m.init.length ms.c3)).grow (drew_below _))
    have HBf := Lib.hid (below_put5 HB2.out (Nat.le_refl _) (.string ⟨m.code.toArray⟩) (.slice ms.A1 m.procs.length ms.c1) (.slice ms.A2 m.imports.length ms.c2) (.int .i64 m.data) (.slice ms.A3 m.init.length ms.c3))
    have HFf := Lib.hid (HF2.out.put5 (p := w.heap.size) (by omega) (.string ⟨m.code.toArray⟩) (.slice ms.A1 m.procs.length ms.c1) (.slice ms.A2 m.imports.length ms.c2) (.int .i64 m.data) (.slice ms.A3 m.init.length ms.c3))
    go_wp2_with fail
    exact rfun_ret HXf.out rfl rfl rfl (unEnd_some (s := ms) (HS.out (by first | rfl | trivial)) (HBf.out.trans ((drew_below _).mono HBf.out.size)) (Nat.le_of_lt hwl) (HFf.out.grow (drew_below _)))
end Go.Proofs.Ytckbfocbainlpaa
