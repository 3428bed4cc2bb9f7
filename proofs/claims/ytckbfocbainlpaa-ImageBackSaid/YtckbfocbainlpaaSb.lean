/- obj.sameModule, obj.Same, image.Same. Condition: what lies in memory can lie there. -/
import Derived.Test.YtckbfocbainlpaaSa
namespace Go.Proofs.Ytckbfocbainlpaa
open Go.RowKit
set_option maxRecDepth 100000

theorem mod_ne {m n : ModL} (h : m.code ≠ n.code ∨ m.procs ≠ n.procs ∨ m.imports ≠ n.imports ∨ m.data ≠ n.data ∨ m.init ≠ n.init) : decide (m = n) = false := decide_eq_false fun e => by
  subst e
  rcases h with h | h | h | h | h <;> exact h rfl
/-- Two boxes, one behind the other, and what is old. -/
structure Two (w : World) (cs ds : Array Value) (T : TypeId) (W : World) : Prop where
  one : Box w.heap.size cs T W
  two : Box (w.heap.size + 1) ds T W
  old : Below w.heap.size w W
theorem Two.new (w : World) (cs ds : Array Value) (T : TypeId) (hT : T ≠ 5) : Two w cs ds T ((w.alloc (.cells cs T)).alloc (.cells ds T)) :=
  ⟨(Box.new w cs T hT).grow (alloc_below _ _), by simpa using Box.new (w.alloc (.cells cs T)) ds T hT, ((Below.refl _ _).alloc (Nat.le_refl _) _).alloc (by simp) _⟩
theorem Two.grow {w : World} {cs ds : Array Value} {T : TypeId} {W W' : World} (h : Two w cs ds T W) (hb : Below W.heap.size W W') : Two w cs ds T W' :=
  ⟨h.one.grow hb, h.two.grow hb, h.old.trans (hb.mono (Nat.le_of_lt h.one.lt))⟩
theorem Two.c {w : World} {cs ds : Array Value} {T : TypeId} {W : World} (h : Two w cs ds T W) (i : Nat) (v : Value) (hv : cs[i]? = some v) : W.cell? ⟨w.heap.size, i, none⟩ = some v := (h.one.cell i).trans hv
theorem Two.d {w : World} {cs ds : Array Value} {T : TypeId} {W : World} (h : Two w cs ds T W) (i : Nat) (v : Value) (hv : ds[i]? = some v) : W.cell? ⟨w.heap.size + 1, i, none⟩ = some v := (h.two.cell i).trans hv

set_option maxHeartbeats 2000000 in
theorem sameModule_any (s t : MS) (m n : ModL) (w : World) (hM : ModIn w s m) (hN : ModIn w t n) : Calls Try.prog 55 #[modV s m, modV t n] w (BoolEnd w (decide (m = n))) := by
  have HM := Lib.hid hM
  have HN := Lib.hid hN
  have hm1 := hM.procs_le
  have hm2 := hM.imports_le
  have hm3 := hM.init_le
  have hn1 := hN.procs_le
  have hn2 := hN.imports_le
  have hn3 := hN.init_le
  have HT := Lib.hid (Two.new w (modCells s m) (modCells t n) 41 (by decide))
  clear hM hN
  obtain ⟨mc, mp, mi, md, mt⟩ := m
  obtain ⟨nc, np, ni, nd, nt⟩ := n
  unfold modV
  simp only at hm1 hm2 hm3 hn1 hn2 hn3 ⊢
  by_cases h1 : mc = nc
  case neg =>
    have HX := Lib.hid (mod_ne (m := ⟨mc, mp, mi, md, mt⟩) (n := ⟨nc, np, ni, nd, nt⟩) (.inl h1))
    have f1 : (mc == nc) = false := by simp [h1]
    have f2 : decide (mc = nc) = false := by simp [h1]
    clear h1
    go_enter Try.func55, Try.ntmps55
    go_wp2_with fail
    go_ret
    exact boolEnd_false HX.out HT.out.old
  subst h1
  go_enter Try.func55, Try.ntmps55
  go_wp2_with fail
  refine (eqProcs s.A1 t.A1 s.c1 t.c1 mp np hm1 hn1 _ (HM.out.procs.later HT.out.old (Nat.le_refl _)) (HN.out.procs.later HT.out.old (Nat.le_refl _))).mono ?_
  rintro e w2 ⟨rfl, hb2⟩
  have HT2 := Lib.hid (HT.out.grow hb2)
  clear hb2 HT
  have b2 := HT2.out.c 2 (.slice s.A2 mi.length s.c2) rfl
  have b3 := HT2.out.c 3 (.int .i64 md) rfl
  have b4 := HT2.out.c 4 (.slice s.A3 mt.length s.c3) rfl
  have e2 := HT2.out.d 2 (.slice t.A2 ni.length t.c2) rfl
  have e3 := HT2.out.d 3 (.int .i64 nd) rfl
  have e4 := HT2.out.d 4 (.slice t.A3 nt.length t.c3) rfl
  by_cases h2 : mp = np
  case neg =>
    have HX := Lib.hid (mod_ne (m := ⟨mc, mp, mi, md, mt⟩) (n := ⟨mc, np, ni, nd, nt⟩) (.inr (.inl h2)))
    rw [decide_eq_false h2]
    clear h2
    go_wp2_with fail
    go_ret
    exact boolEnd_false HX.out HT2.out.old
  rw [decide_eq_true h2]
  subst h2
  go_wp2_with fail
  refine (eqInts s.A2 t.A2 s.c2 t.c2 mi ni hm2 hn2 _ (HM.out.imports.later HT2.out.old (Nat.le_refl _)) (HN.out.imports.later HT2.out.old (Nat.le_refl _))).mono ?_
  rintro e w3 ⟨rfl, hb3⟩
  have HT3 := Lib.hid (HT2.out.grow hb3)
  clear hb3 HT2 b2 b3 b4 e2 e3 e4
  have b3 := HT3.out.c 3 (.int .i64 md) rfl
  have b4 := HT3.out.c 4 (.slice s.A3 mt.length s.c3) rfl
  have e3 := HT3.out.d 3 (.int .i64 nd) rfl
  have e4 := HT3.out.d 4 (.slice t.A3 nt.length t.c3) rfl
  by_cases h3 : mi = ni
  case neg =>
    have HX := Lib.hid (mod_ne (m := ⟨mc, mp, mi, md, mt⟩) (n := ⟨mc, mp, ni, nd, nt⟩) (.inr (.inr (.inl h3))))
    rw [decide_eq_false h3]
    clear h3
    go_wp2_with fail
    go_ret
    exact boolEnd_false HX.out HT3.out.old
  rw [decide_eq_true h3]
  subst h3
  by_cases h4 : md = nd
  case neg =>
    have HX := Lib.hid (mod_ne (m := ⟨mc, mp, mi, md, mt⟩) (n := ⟨mc, mp, mi, nd, nt⟩) (.inr (.inr (.inr (.inl h4)))))
    have f1 : (md == nd) = false := by simp [h4]
    clear h4
    go_wp2_with fail
    go_ret
    exact boolEnd_false HX.out HT3.out.old
  subst h4
  go_wp2_with fail
  refine (eqWords s.A3 t.A3 s.c3 t.c3 mt nt hm3 hn3 _ (HM.out.init.later HT3.out.old (Nat.le_refl _)) (HN.out.init.later HT3.out.old (Nat.le_refl _))).mono ?_
  rintro e w4 ⟨rfl, hb4⟩
  have HT4 := Lib.hid (HT3.out.grow hb4)
  clear hb4 HT3 b3 b4 e3 e4
  have HX := Lib.hid (show decide ((⟨mc, mp, mi, md, mt⟩ : ModL) = ⟨mc, mp, mi, md, nt⟩) = decide (mt = nt) by simp)
  generalize decide (mt = nt) = dd at *
  go_wp2_with fail
  go_ret
  exact boolEnd_of HX.out.symm HT4.out.old

theorem eqUses0 (w : World) : Calls Try.prog 54 #[.slice none 0 0, .slice none 0 0] w fun e w' => e = .returned (.bool true) ∧ w = w' := by
  go_enter Try.func54, Try.ntmps54
  go_wp2_with fail
  go_loopg [13] 0 (fun g i wr => i = .int .i64 0 ∧ wr = w)
  case atStart => exact ⟨rfl, rfl⟩
  case round =>
    obtain ⟨rfl, rfl⟩ := hrel
    go_wp2_with fail
    go_ret
    exact ⟨rfl, rfl⟩
/-- A module as an object's, of which nothing else is told. -/
def objV (s : MS) (m : ModL) : Value := .agg #[.string ⟨#[]⟩, .bool false, .int .u64 0, .slice none 0 0, .string ⟨m.code.toArray⟩, .slice s.A1 m.procs.length s.c1, .slice s.A2 m.imports.length s.c2, .int .i64 m.data, .slice s.A3 m.init.length s.c3]
def objCells (s : MS) (m : ModL) : Array Value := #[.string ⟨#[]⟩, .bool false, .int .u64 0, .slice none 0 0, .string ⟨m.code.toArray⟩, .slice s.A1 m.procs.length s.c1, .slice s.A2 m.imports.length s.c2, .int .i64 m.data, .slice s.A3 m.init.length s.c3]
set_option maxHeartbeats 2000000 in
theorem objSame_any (s t : MS) (m n : ModL) (w : World) (hM : ModIn w s m) (hN : ModIn w t n) : Calls Try.prog 33 #[objV s m, objV t n] w (BoolEnd w (decide (m = n))) := by
  have HM := Lib.hid hM
  have HN := Lib.hid hN
  have HT := Lib.hid (Two.new w (objCells s m) (objCells t n) 79 (by decide))
  clear hM hN
  unfold objV
  go_enter Try.func33, Try.ntmps33
  go_wp2_with fail
  refine (eqUses0 _).mono ?_
  rintro e w2 ⟨rfl, rfl⟩
  go_wp2_with fail
  refine (sameModule_any s t m n _ (HM.out.later HT.out.old (Nat.le_refl _)) (HN.out.later HT.out.old (Nat.le_refl _))).mono ?_
  rintro e w2 ⟨rfl, hb2⟩
  have HT2 := Lib.hid (HT.out.grow hb2)
  clear hb2 HT
  generalize decide (m = n) = dd at *
  go_wp2_with fail
  go_ret
  exact boolEnd_of rfl HT2.out.old
set_option maxHeartbeats 1000000 in
theorem same1_any (s t : MS) (m n : ModL) (w : World) (hM : ModIn w s m) (hN : ModIn w t n) : Calls Try.prog 32 #[modV s m, modV t n] w (BoolEnd w (decide (m = n))) := by
  have HM := Lib.hid hM
  have HN := Lib.hid hN
  have HT := Lib.hid (Two.new w (modCells s m) (modCells t n) 41 (by decide))
  clear hM hN
  unfold modV
  go_enter Try.func32, Try.ntmps32
  go_wp2_with fail
  refine (objSame_any s t m n _ (HM.out.later HT.out.old (Nat.le_refl _)) (HN.out.later HT.out.old (Nat.le_refl _))).mono ?_
  rintro e w2 ⟨rfl, hb2⟩
  have HT2 := Lib.hid (HT.out.grow hb2)
  clear hb2 HT
  generalize decide (m = n) = dd at *
  go_wp2_with fail
  go_ret
  exact boolEnd_of rfl HT2.out.old
end Go.Proofs.Ytckbfocbainlpaa
