/- image.Decode: bytes that are told at once. Condition: what lies in memory can lie there. -/
import Derived.Test.YtckbfocbainlpaaWa
namespace Go.Proofs.Ytckbfocbainlpaa
open Go.RowKit
set_option maxRecDepth 100000

def nullS : IS := ⟨none, 0, none, 0, none, 0⟩
/-- How Decode ends. -/
def DecEnd (w : World) (i : ImgL) (er : Int) (e : Ending) (w' : World) : Prop := ∃ t, e = .returned (.tuple #[imgV t i, .int .i64 er]) ∧ ImgIn w' t i ∧ Below w.heap.size w w'
theorem nullIn (w : World) : ImgIn w nullS nullI := ⟨.inl rfl, .inl rfl, .inl rfl, Nat.zero_le _, Nat.zero_le _, Nat.zero_le _⟩
theorem decEnd_null {w w' : World} {i : ImgL} {er er' : Int} (hi : i = nullI) (he : er = er') (hb : Below w.heap.size w w') : DecEnd w i er (.returned (.tuple #[.agg #[.slice none 0 0, .slice none 0 0, .slice none 0 0], .int .i64 er'])) w' := by
  subst hi he; exact ⟨nullS, rfl, nullIn _, hb⟩
theorem decodeI_null {s : List UInt8} (h : decodeE s ≠ 0) : decodeI s = nullI := by unfold decodeI; rw [if_neg h]
/-- The box of the answer, as it is at first. -/
theorem R0 (w : World) : Box w.heap.size #[.slice none 0 0, .slice none 0 0, .slice none 0 0] 28 (w.alloc (.cells #[.slice none 0 0, .slice none 0 0, .slice none 0 0] 28)) := Box.new _ _ _ (by decide)

set_option maxHeartbeats 1000000 in
theorem decode_short (s : List UInt8) (hs : s.length ≤ 140737488355328) (w : World) (h : s.length < 12 ∨ s.take 4 ≠ kindL) : Calls Try.prog 16 #[.string ⟨s.toArray⟩] w (DecEnd w (decodeI s) (decodeE s)) := by
  have HE := Lib.hid (show decodeE s = 7 by unfold decodeE; rw [if_pos h])
  have HI := Lib.hid (show decodeI s = nullI from decodeI_null (by rw [HE.out]; decide))
  have HA := Lib.hid (alloc_below w (.cells #[.slice none 0 0, .slice none 0 0, .slice none 0 0] 28))
  by_cases h1 : s.length < 12
  · go_enter Try.func16, Try.ntmps16
    go_wp2_with fail
    refine bodyPost_ret (v := .tuple #[.agg #[.slice none 0 0, .slice none 0 0, .slice none 0 0], .int .i64 7]) (by simp [results, Try.results16, go_sem]) rfl ?_
    exact decEnd_null HI.out HE.out HA.out
  · have h2 : s.take 4 ≠ kindL := h.resolve_left h1
    have x1 := ext_take s 4
    have d1 : (s.take 4 == [83, 69, 80, 73]) = false := by simpa [kindL] using h2
    have d2 : decide (s.take 4 = [83, 69, 80, 73]) = false := by simpa [kindL] using h2
    have hI : (4 : Int) ≤ (s.length : Int) := by omega
    clear h2
    go_enter Try.func16, Try.ntmps16
    go_wp2_with fail
    refine bodyPost_ret (v := .tuple #[.agg #[.slice none 0 0, .slice none 0 0, .slice none 0 0], .int .i64 7]) (by simp [results, Try.results16, go_sem]) rfl ?_
    exact decEnd_null HI.out HE.out HA.out
/-- The answer lies in its box. -/
theorem dec_ret {w W : World} {R : Ending → World → Prop} {u0 u1 u2 : Value} {er : Int} {c : Array Value} (hX : Box w.heap.size #[u0, u1, u2] 28 W) (h2 : c.getD 2 undef = .pointer (some ⟨w.heap.size, 0, none⟩)) (h3 : c.getD 3 undef = .int .i64 er)
    (hR : R (.returned (.tuple #[.agg #[u0, u1, u2], .int .i64 er])) W) : bodyPost Try.prog Try.f16 R .ret { tmps := c, defers := [] } W := by
  have c0 : W.cell? ⟨w.heap.size, 0, none⟩ = some u0 := (hX.cell 0).trans rfl
  have c1 : W.cell? ⟨w.heap.size, 1, none⟩ = some u1 := (hX.cell 1).trans rfl
  have c2 : W.cell? ⟨w.heap.size, 2, none⟩ = some u2 := (hX.cell 2).trans rfl
  refine bodyPost_ret (v := .tuple #[.agg #[u0, u1, u2], .int .i64 er]) ?_ rfl hR
  have h2' : c[2]?.getD undef = .pointer (some ⟨w.heap.size, 0, none⟩) := by simpa using h2
  have h3' : c[3]?.getD undef = .int .i64 er := by simpa using h3
  simp only [results, Try.results16]
  simp [go_sem, h2', h3', c0, c1, c2]
theorem set3 {k : Nat} {a b c u0 u1 u2 : Value} {T : TypeId} {W : World} (h : Box k #[a, b, c] T W) : Box k #[u0, u1, u2] T (World.setCell (World.setCell (World.setCell W ⟨k, 0, none⟩ u0) ⟨k, 1, none⟩ u1) ⟨k, 2, none⟩ u2) :=
  ((((h.set 0 u0).to (ds := #[u0, b, c]) (by simp)).set 1 u1).to (ds := #[u0, u1, c]) (by simp)).set 2 u2 |>.to (by simp)
theorem below3 {k : Nat} {w W : World} (h : Below k w W) (u0 u1 u2 : Value) : Below k w (World.setCell (World.setCell (World.setCell W ⟨k, 0, none⟩ u0) ⟨k, 1, none⟩ u1) ⟨k, 2, none⟩ u2) :=
  ((h.setCell (p := ⟨k, 0, none⟩) (Nat.le_refl _) _).setCell (p := ⟨k, 1, none⟩) (Nat.le_refl _) _).setCell (p := ⟨k, 2, none⟩) (Nat.le_refl _) _
theorem quiet_same' {P : Program} {f : FuncId} {args : Array Value} {w : World} {x : Gr} {v : Value}
    (h : Calls P f args (growN w x) fun e w' => e = .returned v ∧ growN w x = w') : Calls P f args (growN w x) fun e w'' => e = .returned v ∧ ∃ y, w'' = growN w y :=
  h.mono fun _ _ ⟨he, hw⟩ => ⟨he, x, hw.symm⟩
theorem ext_mid (s : List UInt8) : ByteArray.extract ⟨s.toArray⟩ 4 12 = ⟨((s.drop 4).take 8).toArray⟩ := by
  rw [ext_at, List.drop_take]

set_option maxHeartbeats 2000000 in
theorem decode_key (s : List UInt8) (hs : s.length ≤ 140737488355328) (w : World) (h1 : ¬ s.length < 12) (h2 : s.take 4 = kindL) (h3 : (s.drop 4).take 8 ≠ eightL (keyN (s.drop 12))) : Calls Try.prog 16 #[.string ⟨s.toArray⟩] w (DecEnd w (decodeI s) (decodeE s)) := by
  have HE := Lib.hid (show decodeE s = 210 by unfold decodeE; rw [if_neg (by rintro (h | h); exact h1 h; exact h h2), if_pos h3])
  have HI := Lib.hid (show decodeI s = nullI from decodeI_null (by rw [HE.out]; decide))
  have HA := Lib.hid (alloc_below w (.cells #[.slice none 0 0, .slice none 0 0, .slice none 0 0] 28))
  have HX := Lib.hid (R0 w)
  have x1 := ext_take s 4
  have x2 := ext_mid s
  have x3 := ext_drop s 12
  have d1 : (s.take 4 == [83, 69, 80, 73]) = true := by simpa [kindL] using h2
  have d2 : decide (s.take 4 = [83, 69, 80, 73]) = true := by simpa [kindL] using h2
  have d3 : s.take 4 = [83, 69, 80, 73] := h2
  have hI : (4 : Int) ≤ (s.length : Int) := by omega
  have hI2 : (12 : Int) ≤ (s.length : Int) := by omega
  have hl12 : (s.drop 12).length ≤ 140737488355328 := by rw [List.length_drop]; omega
  have f1 : (List.take 8 (List.drop 4 s) == eightL (keyN (List.drop 12 s))) = false := by simpa using h3
  have f2 : decide (List.take 8 (List.drop 4 s) = eightL (keyN (List.drop 12 s))) = false := by simpa using h3
  clear h2
  go_enter Try.func16, Try.ntmps16
  go_wp2_with fail
  generalize w.alloc (.cells #[.slice none 0 0, .slice none 0 0, .slice none 0 0] 28) = w0 at *
  refine wp_region_grow (by kernel_rfl) (by kernel_rfl) ?_
  repeat (first | go_big_quiet_step (first | (refine quiet_same' (keyOf_any (s.drop 12) hl12 _)) | (refine quiet_grow (eight_any (keyN (s.drop 12)) _))))
  refine wpQuiet_nil ?_
  rintro _ ⟨gx, rfl⟩
  have HXg := Lib.hid (HX.out.grow (growN_below w0 gx))
  have HBg := Lib.hid (HA.out.trans ((growN_below w0 gx).mono HA.out.size))
  generalize growN w0 gx = wg at *
  have c0 : wg.cell? ⟨w.heap.size, 0, none⟩ = some (.slice none 0 0) := (HXg.out.cell 0).trans rfl
  have c1 : wg.cell? ⟨w.heap.size, 1, none⟩ = some (.slice none 0 0) := (HXg.out.cell 1).trans rfl
  have c2 : wg.cell? ⟨w.heap.size, 2, none⟩ = some (.slice none 0 0) := (HXg.out.cell 2).trans rfl
  have k0 := HXg.out.frozen 0
  have k1 := HXg.out.frozen 1
  have k2 := HXg.out.frozen 2
  go_wp2_with fail
  exact dec_ret (set3 HXg.out) rfl rfl (decEnd_null HI.out HE.out (below3 HBg.out _ _ _))
end Go.Proofs.Ytckbfocbainlpaa
