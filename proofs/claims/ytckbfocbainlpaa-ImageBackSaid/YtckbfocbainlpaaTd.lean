/- separatumref24.Decode. Condition: what lies in memory can lie there. -/
import Derived.Test.YtckbfocbainlpaaWd
import Derived.Test.YtckbfocbainlpaaTc
namespace Go.Proofs.Ytckbfocbainlpaa
open Go.RowKit
set_option maxRecDepth 100000

theorem rfdec_ret {w W : World} {R : Ending → World → Prop} {u0 u1 u2 : Value} {er : Int} {c : Array Value} (hX : Box w.heap.size #[u0, u1, u2] 28 W) (h2 : c.getD 2 undef = .pointer (some ⟨w.heap.size, 0, none⟩)) (h3 : c.getD 3 undef = .int .i64 er)
    (hR : R (.returned (.tuple #[.agg #[u0, u1, u2], .int .i64 er])) W) : bodyPost Try.prog Try.f17 R .ret { tmps := c, defers := [] } W := by
  have c0 : W.cell? ⟨w.heap.size, 0, none⟩ = some u0 := (hX.cell 0).trans rfl
  have c1 : W.cell? ⟨w.heap.size, 1, none⟩ = some u1 := (hX.cell 1).trans rfl
  have c2 : W.cell? ⟨w.heap.size, 2, none⟩ = some u2 := (hX.cell 2).trans rfl
  refine bodyPost_ret (v := .tuple #[.agg #[u0, u1, u2], .int .i64 er]) ?_ rfl hR
  have h2' : c[2]?.getD undef = .pointer (some ⟨w.heap.size, 0, none⟩) := by simpa using h2
  have h3' : c[3]?.getD undef = .int .i64 er := by simpa using h3
  simp only [results, Try.results17]
  simp [go_sem, h2', h3', c0, c1, c2]

set_option maxHeartbeats 1000000 in
theorem refDecode_short (s : List UInt8) (hs : s.length ≤ 140737488355328) (w : World) (h : s.length < 12 ∨ s.take 4 ≠ kindL) : Calls Try.prog 17 #[.string ⟨s.toArray⟩] w (DecEnd w (decodeI s) (decodeE s)) := by
  have HE := Lib.hid (show decodeE s = 7 by unfold decodeE; rw [if_pos h])
  have HI := Lib.hid (show decodeI s = nullI from decodeI_null (by rw [HE.out]; decide))
  have HA := Lib.hid (alloc_below w (.cells #[.slice none 0 0, .slice none 0 0, .slice none 0 0] 28))
  by_cases h1 : s.length < 12
  · go_enter Try.func17, Try.ntmps17
    go_wp2_with fail
    refine bodyPost_ret (v := .tuple #[.agg #[.slice none 0 0, .slice none 0 0, .slice none 0 0], .int .i64 7]) (by simp [results, Try.results17, go_sem]) rfl ?_
    exact decEnd_null HI.out HE.out HA.out
  · have h2 : s.take 4 ≠ kindL := h.resolve_left h1
    have x1 := ext_take s 4
    have d1 : (s.take 4 == [83, 69, 80, 73]) = false := by simpa [kindL] using h2
    have d2 : decide (s.take 4 = [83, 69, 80, 73]) = false := by simpa [kindL] using h2
    have hI : (4 : Int) ≤ (s.length : Int) := by omega
    clear h2
    go_enter Try.func17, Try.ntmps17
    go_wp2_with fail
    refine bodyPost_ret (v := .tuple #[.agg #[.slice none 0 0, .slice none 0 0, .slice none 0 0], .int .i64 7]) (by simp [results, Try.results17, go_sem]) rfl ?_
    exact decEnd_null HI.out HE.out HA.out

set_option maxHeartbeats 2000000 in
theorem refDecode_key (s : List UInt8) (hs : s.length ≤ 140737488355328) (w : World) (h1 : ¬ s.length < 12) (h2 : s.take 4 = kindL) (h3 : (s.drop 4).take 8 ≠ eightL (keyN (s.drop 12))) : Calls Try.prog 17 #[.string ⟨s.toArray⟩] w (DecEnd w (decodeI s) (decodeE s)) := by
  have HE := Lib.hid (show decodeE s = 210 by unfold decodeE; rw [if_neg (by rintro (h | h); exact h1 h; exact h h2), if_pos h3])
  have HI := Lib.hid (show decodeI s = nullI from decodeI_null (by rw [HE.out]; decide))
  have HA := Lib.hid (alloc_below w (.cells #[.slice none 0 0, .slice none 0 0, .slice none 0 0] 28))
  have HX := Lib.hid (R0 w)
  have HK := Lib.hid (keyN_lt (s.drop 12))
  have x1 := ext_take s 4
  have x2 := ext_mid s
  have x3 := ext_drop s 12
  have d1 : (s.take 4 == [83, 69, 80, 73]) = true := by simpa [kindL] using h2
  have d2 : decide (s.take 4 = [83, 69, 80, 73]) = true := by simpa [kindL] using h2
  have d3 : s.take 4 = [83, 69, 80, 73] := h2
  have hI : (4 : Int) ≤ (s.length : Int) := by omega
  have hI2 : (12 : Int) ≤ (s.length : Int) := by omega
  have hl12 : (s.drop 12).length ≤ 140737488355328 := by rw [List.length_drop]; omega
  have f1 : (List.take 8 (List.drop 4 s) == eightL (keyN (List.drop 12 s))) = false := by simpa using h3
  have f2 : decide (List.take 8 (List.drop 4 s) = eightL (keyN (List.drop 12 s))) = false := by simpa using h3
  clear h2
  go_enter Try.func17, Try.ntmps17
  go_wp2_with fail
  generalize w.alloc (.cells #[.slice none 0 0, .slice none 0 0, .slice none 0 0] 28) = w0 at *
  refine wp_region_grow (by kernel_rfl) (by kernel_rfl) ?_
  repeat (first | go_big_quiet_step (first | (refine quiet_same' (refOf_any (s.drop 12) hl12 _)) | (refine quiet_grow (refEight_any (keyN (s.drop 12)) HK.out _))))
  refine wpQuiet_nil ?_
  rintro _ ⟨gx, rfl⟩
  have HXg := Lib.hid (HX.out.grow (growN_below w0 gx))
  have HBg := Lib.hid (HA.out.trans ((growN_below w0 gx).mono HA.out.size))
  generalize growN w0 gx = wg at *
  have c0 : wg.cell? ⟨w.heap.size, 0, none⟩ = some (.slice none 0 0) := (HXg.out.cell 0).trans rfl
  have c1 : wg.cell? ⟨w.heap.size, 1, none⟩ = some (.slice none 0 0) := (HXg.out.cell 1).trans rfl
  have c2 : wg.cell? ⟨w.heap.size, 2, none⟩ = some (.slice none 0 0) := (HXg.out.cell 2).trans rfl
  have k0 := HXg.out.frozen 0
  have k1 := HXg.out.frozen 1
  have k2 := HXg.out.frozen 2
  go_wp2_with fail
  exact rfdec_ret (set3 HXg.out) rfl rfl (decEnd_null HI.out HE.out (below3 HBg.out _ _ _))
-- MAIN
def W1 (R : Nat) (v1 : Value) (W : World) : Prop := W.cell? ⟨R, 0, none⟩ = some v1
theorem off_snoc {X : Option Nat} {sm : List (MS × ModL)} {p : MS × ModL} (h : ∀ y ∈ sm, OffM X y.1 y.2) (hp : OffM X p.1 p.2) : ∀ y ∈ sm ++ [p], OffM X y.1 y.2 := fun y hy => by
  rcases List.mem_append.1 hy with hy | hy
  · exact h y hy
  · rw [List.mem_singleton.1 hy]; exact hp
theorem may_at {W : World} {A1 A2 A3 : Option Addr} {a1 a2 a3 n2 n3 : Nat} {h : Half} (hI : ImgIn W ⟨A1, a1, A2, a2, A3, a3⟩ (halfI h)) (e2 : h.mods.length = n2) (e3 : (ordL h.names.length).length = n3) :
    Calls Try.prog 12 #[.agg #[.slice A1 h.names.length a1, .slice A2 n2 a2, .slice A3 n3 a3]] W (BoolEnd W (imgB (halfI h))) := by
  have := refMay_any ⟨A1, a1, A2, a2, A3, a3⟩ (halfI h) W hI
  subst e2 e3
  exact this
/-- The image stands, though three cells of an older block are written. -/
theorem decEnd_ok2 {s t : List UInt8} {w u W : World} {k : Nat} {h : Half} {sm : List (MS × ModL)} {A1 A2 A3 : Option Addr} {n1 n2 n3 c1 c2 c3 : Nat} {x y z : Value} (hi : decodeI s = halfI h) (he : decodeE s = 0) (hk : k ≤ 255) (hwu : w.heap.size < u.heap.size)
    (d : DL u t k h sm (.slice A1 n1 c1) (.slice A2 n2 c2) (.slice A3 n3 c3) W) (ho : ∀ p ∈ sm, OffM (some w.heap.size) p.1 p.2) (hb : Below w.heap.size w (World.setCell (World.setCell (World.setCell W ⟨w.heap.size, 0, none⟩ x) ⟨w.heap.size, 1, none⟩ y) ⟨w.heap.size, 2, none⟩ z)) :
    DecEnd w (decodeI s) (decodeE s) (.returned (.tuple #[.agg #[.slice A1 n1 c1, .slice A2 n2 c2, .slice A3 n3 c3], .int .i64 0])) (World.setCell (World.setCell (World.setCell W ⟨w.heap.size, 0, none⟩ x) ⟨w.heap.size, 1, none⟩ y) ⟨w.heap.size, 2, none⟩ z) := by
  have hg : W.grownBy (World.setCell (World.setCell (World.setCell W ⟨w.heap.size, 0, none⟩ x) ⟨w.heap.size, 1, none⟩ y) ⟨w.heap.size, 2, none⟩ z) (some w.heap.size) := grown_set (grown_set (grown_set (grown_refl W (some w.heap.size)) 0 x) 1 y) 2 z
  generalize World.setCell (World.setCell (World.setCell W ⟨w.heap.size, 0, none⟩ x) ⟨w.heap.size, 1, none⟩ y) ⟨w.heap.size, 2, none⟩ z = W' at *
  have e1 := own_n d.di.o1
  have e2 := own_n d.di.o2
  have e3 := own_n d.di.o3
  have hn := d.names
  have hs := d.n
  have hm : h.mods.length = k := by rw [d.mods, List.length_map]; exact hs
  have o1 := own_other d.di.o1 hg (by omega)
  have o2 := own_other d.di.o2 hg (by omega)
  have o3 := own_other d.di.o3 hg (by omega)
  have hI : ImgIn W' ⟨A1, c1, A2, c2, A3, c3⟩ (halfI h) := by
    refine ⟨own_strs d.short o1, ?_, ?_, ?_, ?_, ?_⟩
    · show Mods W' A2 h.mods
      rw [d.mods]
      exact own_mods (fun p hp => (d.di.mods p hp).1.grown hg (ho p hp)) o2
    · show Ints W' A3 (ordL h.names.length)
      rw [hn]
      exact own_ints o3
    · show h.names.length ≤ _; omega
    · show h.mods.length ≤ _; omega
    · show (ordL h.names.length).length ≤ _; rw [ordL_length]; omega
  have f2 : n2 = h.mods.length := by omega
  have f3 : n3 = (ordL h.names.length).length := by rw [hn]; exact e3
  rw [hi, he, e1, f2, f3]
  exact ⟨_, rfl, hI, hb⟩
set_option maxHeartbeats 4000000 in
theorem refDecode_main (s : List UInt8) (hs : s.length ≤ 140737488355328) (w : World) (h1 : ¬ s.length < 12) (h2 : s.take 4 = kindL) (h3 : (s.drop 4).take 8 = eightL (keyN (s.drop 12))) : Calls Try.prog 17 #[.string ⟨s.toArray⟩] w (DecEnd w (decodeI s) (decodeE s)) := by
  have HBad := Lib.hid (fun (b : List UInt8) (hb : s.drop 12 = b) (h4 : readL b = none) => decode_bad h1 h2 h3 hb h4)
  have HGood := Lib.hid (fun (b : List UInt8) (i : ImgL) (hb : s.drop 12 = b) (h4 : readL b = some i) => decode_good h1 h2 h3 hb h4)
  have HA := Lib.hid (alloc_below w (.cells #[.slice none 0 0, .slice none 0 0, .slice none 0 0] 28))
  have HX := Lib.hid (R0 w)
  have HK := Lib.hid (keyN_lt (s.drop 12))
  have x1 := ext_take s 4
  have x2 := ext_mid s
  have x3 := ext_drop s 12
  have d3 : s.take 4 = [83, 69, 80, 73] := h2
  have hI : (4 : Int) ≤ (s.length : Int) := by omega
  have hI2 : (12 : Int) ≤ (s.length : Int) := by omega
  have hl12 : (s.drop 12).length ≤ 140737488355328 := by rw [List.length_drop]; omega
  have f1 : (List.take 8 (List.drop 4 s) == eightL (keyN (List.drop 12 s))) = true := by simpa using h3
  have f2 : decide (List.take 8 (List.drop 4 s) = eightL (keyN (List.drop 12 s))) = true := by simpa using h3
  clear h2
  go_enter Try.func17, Try.ntmps17
  go_wp2_with fail
  generalize w.alloc (.cells #[.slice none 0 0, .slice none 0 0, .slice none 0 0] 28) = w0 at *
  refine wp_region_grow (by kernel_rfl) (by kernel_rfl) ?_
  repeat (first | go_big_quiet_step (first | (refine quiet_same' (refOf_any (s.drop 12) hl12 _)) | (refine quiet_grow (refEight_any (keyN (s.drop 12)) HK.out _))))
  refine wpQuiet_nil ?_
  rintro _ ⟨gx, rfl⟩
  have HXg := Lib.hid (HX.out.grow (growN_below w0 gx))
  have HBg := Lib.hid (HA.out.trans ((growN_below w0 gx).mono HA.out.size))
  generalize growN w0 gx = wg at *
  have hsl : s.length = (s.drop 12).length + 12 := by rw [List.length_drop]; omega
  have HD13 := Lib.hid (show ∀ c t, s.drop 12 = c :: t → ByteArray.extract ⟨s.toArray⟩ 13 s.length = ⟨t.toArray⟩ from fun c t h => by
    rw [ext_drop, show s.drop 13 = (s.drop 12).drop 1 by rw [List.drop_drop], h]; rfl)
  have HD12 := Lib.hid (show ∀ c t, s.drop 12 = c :: t → s.getD 12 0 = c from fun c t h => by
    have := congrArg (fun l => l.getD 0 0) h
    simpa [List.getD_eq_getElem?_getD, List.getElem?_drop] using this)
  generalize hbody : s.drop 12 = body at *
  have HBody := Lib.hid hbody
  clear hbody h3 f1 f2 x3
  have z0 : wg.cell? ⟨w.heap.size, 0, none⟩ = some (.slice none 0 0) := (HXg.out.cell 0).trans rfl
  have z1 : wg.cell? ⟨w.heap.size, 1, none⟩ = some (.slice none 0 0) := (HXg.out.cell 1).trans rfl
  have z2 : wg.cell? ⟨w.heap.size, 2, none⟩ = some (.slice none 0 0) := (HXg.out.cell 2).trans rfl
  have g0 := HXg.out.frozen 0
  have g1 := HXg.out.frozen 1
  have g2 := HXg.out.frozen 2
  cases body with
  | nil =>
    have HN := Lib.hid (HBad.out [] rfl rfl)
    have hs12 : (s.length : Int) = 12 := by simp only [List.length_nil] at hsl; omega
    clear hsl
    go_wp2_with fail
    exact rfdec_ret (set3 HXg.out) rfl rfl (decEnd_null HN.out.2 HN.out.1 (below3 HBg.out _ _ _))
  | cons c t =>
    have hc : c.toNat < 256 := c.toNat_lt
    have hI13 : (13 : Int) ≤ (s.length : Int) := by simp only [List.length_cons] at hsl; omega
    have hI12 : (12 : Int) < (s.length : Int) := by omega
    have y0 : ∀ hh, (⟨s.toArray⟩ : ByteArray)[12]'hh = c := fun hh => by
      rw [getB s 12 (by omega)]; exact HD12.out c t rfl
    have y4 := HD13.out c t rfl
    have e12 : ((s.length : Int) == 12) = false := by simp; omega
    simp only [List.length_cons] at hl12
    clear hsl HD13 HD12
    go_wp2_with fail
    have HZ := Lib.hid (HXg.out.grow (alloc_below wg (.cells #[.slice none 0 0, .slice none 0 0, .slice none 0 0] 28)))
    have HXx := Lib.hid (R0 wg)
    have hzlt : w.heap.size < wg.heap.size := HXg.out.lt
    have HBx0 := Lib.hid (alloc_below wg (.cells #[.slice none 0 0, .slice none 0 0, .slice none 0 0] 28))
    clear x1 x2 y0 y4 e12 z0 z1 z2 g0 g1 g2
    generalize wg.alloc (.cells #[.slice none 0 0, .slice none 0 0, .slice none 0 0] 28) = wx at *
    go_loopg [6, 7] (c.toNat) (fun g sv i wr => ∃ k h sm v1 v2 v3, k + g = c.toNat ∧ sv = .string ⟨h.rest.toArray⟩ ∧ i = .int .i64 (k : Nat) ∧ DL wg t k h sm v1 v2 v3 wr ∧ (∀ p ∈ sm, OffM (some w.heap.size) p.1 p.2) ∧ Box w.heap.size #[.slice none 0 0, .slice none 0 0, .slice none 0 0] 28 wr)
    case atStart =>
      refine ⟨0, ⟨[], [], t⟩, [], .slice none 0 0, .slice none 0 0, .slice none 0 0, by omega, rfl, rfl, ?_, by simp, HZ.out⟩
      exact ⟨rfl, rfl, rfl, rfl, by simp only; omega, by simp, ⟨HBx0.out, World.ownsRow_nil .., World.ownsRow_nil .., World.ownsRow_nil .., by simp, HXx.out.lt⟩, HXx.out⟩
    case round =>
      clear HZ HXx HBx0
      obtain ⟨k, h, sm, v1, v2, v3, hk, rfl, rfl, hD, hOf, hZ⟩ := hrel
      have HD := Lib.hid hD
      have HOf := Lib.hid hOf
      have HZ := Lib.hid hZ
      have hrest := hD.rest
      obtain ⟨A1, a1, rfl⟩ := own_slice' hD.di.o1
      obtain ⟨A2, a2, rfl⟩ := own_slice' hD.di.o2
      obtain ⟨A3, a3, rfl⟩ := own_slice' hD.di.o3
      have c0 : wr.cell? ⟨wg.heap.size, 0, none⟩ = some (.slice A1 h.names.length a1) := (hD.box.cell 0).trans rfl
      have c1 : wr.cell? ⟨wg.heap.size, 1, none⟩ = some (.slice A2 sm.length a2) := (hD.box.cell 1).trans rfl
      have c2 : wr.cell? ⟨wg.heap.size, 2, none⟩ = some (.slice A3 (ordL k).length a3) := (hD.box.cell 2).trans rfl
      have z0 : wr.cell? ⟨w.heap.size, 0, none⟩ = some (.slice none 0 0) := (hZ.cell 0).trans rfl
      have z1 : wr.cell? ⟨w.heap.size, 1, none⟩ = some (.slice none 0 0) := (hZ.cell 1).trans rfl
      have z2 : wr.cell? ⟨w.heap.size, 2, none⟩ = some (.slice none 0 0) := (hZ.cell 2).trans rfl
      have g0 := hZ.frozen 0
      have g1 := hZ.frozen 1
      have g2 := hZ.frozen 2
      have hlt0 := hD.box.lt
      have HBx := Lib.hid hD.box
      have HOl := Lib.hid (HBg.out.trans (hD.di.old.mono (Nat.le_of_lt hzlt)))
      clear hD hOf hZ
      by_cases hlt : k < c.toNat
      · have hkI : (k : Int) < (c.toNat : Int) := by omega
        have HNo := Lib.hid (fun hn => HBad.out (c :: t) rfl (readL_none hlt HD.out.so hn))
        obtain ⟨ns, ms, rest⟩ := h
        simp only at hrest
        cases rest with
        | nil =>
          have HN := Lib.hid (HNo.out rfl)
          go_wp2_with fail
          exact rfdec_ret (set3 HZ.out) rfl rfl (decEnd_null HN.out.2 HN.out.1 (below3 HOl.out _ _ _))
        | cons b t2 =>
          have hb : b.toNat < 256 := b.toNat_lt
          have y0 : ∀ hh, (⟨(b :: t2).toArray⟩ : ByteArray)[0]'hh = b := fun _ => rfl
          simp only [List.length_cons] at hrest
          by_cases hsh : t2.length < b.toNat
          · have HN := Lib.hid (HNo.out (by unfold stepI; simp only; rw [if_pos hsh]))
            go_wp2_with fail
            exact rfdec_ret (set3 HZ.out) rfl rfl (decEnd_null HN.out.2 HN.out.1 (below3 HOl.out _ _ _))
          · have y1 := ext_cut b t2 b.toNat
            have hle : b.toNat ≤ t2.length := by omega
            have HLn := Lib.hid (show (t2.drop b.toNat).length ≤ 140737488355328 by rw [List.length_drop]; omega)
            have y3 := ext_name b t2 b.toNat
            go_wp2_with fail
            refine (refUnpack_any (t2.drop b.toNat) HLn.out _).mono ?_
            rintro e w1 ⟨hb1, hm⟩
            have HD1 := Lib.hid (HD.out.grow hb1)
            have HBx1 := Lib.hid (HBx.out.grow hb1)
            have HZ1 := Lib.hid (HZ.out.grow hb1)
            have HOl1 := Lib.hid (HOl.out.trans (hb1.mono (Nat.le_of_lt HZ.out.lt)))
            have hlt1 : wg.heap.size < w1.heap.size := HBx1.out.lt
            clear c0 c1 c2 z0 z1 z2 g0 g1 g2
            have z0 : w1.cell? ⟨w.heap.size, 0, none⟩ = some (.slice none 0 0) := (HZ1.out.cell 0).trans rfl
            have z1 : w1.cell? ⟨w.heap.size, 1, none⟩ = some (.slice none 0 0) := (HZ1.out.cell 1).trans rfl
            have z2 : w1.cell? ⟨w.heap.size, 2, none⟩ = some (.slice none 0 0) := (HZ1.out.cell 2).trans rfl
            have g0 := HZ1.out.frozen 0
            have g1 := HZ1.out.frozen 1
            have g2 := HZ1.out.frozen 2
            cases hu : unpackL (t2.drop b.toNat) with
            | none =>
              rw [hu] at hm
              simp only at hm
              subst hm
              have HN := Lib.hid (HNo.out (by unfold stepI; simp only; rw [if_neg hsh, hu]))
              have hwl1 : w.heap.size < w1.heap.size := HZ1.out.lt
              clear hu hb1
              go_wp2_with fail
              exact rfdec_ret ((set3 HZ1.out).grow (alloc_below _ _)) rfl rfl (decEnd_null HN.out.2 HN.out.1 ((below3 HOl1.out _ _ _).alloc (by simpa using Nat.le_of_lt hwl1) _))
            | some mq =>
              obtain ⟨m, qr⟩ := mq
              rw [hu] at hm
              simp only at hm
              obtain ⟨s1, w00, rfl, hle0, hF⟩ := hm
              have HSt := Lib.hid (show imgTo (k + 1) t = some ⟨ns ++ [t2.take b.toNat], ms ++ [m], qr⟩ by
                show (imgTo k t).bind stepI = _
                rw [HD.out.so]
                show stepI ⟨ns, ms, b :: t2⟩ = _
                unfold stepI; simp only; rw [if_neg hsh, hu])
              have hql : qr.length ≤ 140737488355328 := Nat.le_trans (unpack_len hu) HLn.out
              have HDI := Lib.hid (show DI wg (.slice A1 ns.length a1) (.slice A2 sm.length a2) (.slice A3 (ordL k).length a3) ns sm (ordL k) ((s1, m) :: sm) w1 from HD1.out.di.more ⟨hF.mod, hF.off _ (fun g hg => Nat.lt_of_lt_of_le (HD.out.di.o1.lt g hg).2 hle0), hF.off _ (fun g hg => Nat.lt_of_lt_of_le (HD.out.di.o2.lt g hg).2 hle0), hF.off _ (fun g hg => Nat.lt_of_lt_of_le (HD.out.di.o3.lt g hg).2 hle0), hF.off _ (fun g hg => by injection hg with hg; subst hg; exact Nat.lt_of_lt_of_le HBx.out.lt hle0)⟩)
              have HOn := Lib.hid (show OffM (some w.heap.size) s1 m from hF.off _ (fun g hg => by injection hg with hg; subst hg; exact Nat.lt_of_lt_of_le HZ.out.lt hle0))
              have HKn := Lib.hid HD.out.names
              have HKs := Lib.hid HD.out.n
              have HKm := Lib.hid HD.out.mods
              have HKh := Lib.hid HD.out.short
              clear hu hb1 hF HD HD1 HBx HOl HZ z0 z1 z2 g0 g1 g2
              unfold modV
              go_upto_region 19 with (fail)
              have HX2 := Lib.hid (HBx1.out.grow (alloc_below w1 (.cells #[.string ⟨m.code.toArray⟩, .slice s1.A1 m.procs.length s1.c1, .slice s1.A2 m.imports.length s1.c2, .int .i64 m.data, .slice s1.A3 m.init.length s1.c3] 41)))
              have HM2 := Lib.hid (Box.new w1 #[.string ⟨m.code.toArray⟩, .slice s1.A1 m.procs.length s1.c1, .slice s1.A2 m.imports.length s1.c2, .int .i64 m.data, .slice s1.A3 m.init.length s1.c3] 41 (by decide))
              have HI2 := Lib.hid (HDI.out.grow (alloc_below w1 (.cells #[.string ⟨m.code.toArray⟩, .slice s1.A1 m.procs.length s1.c1, .slice s1.A2 m.imports.length s1.c2, .int .i64 m.data, .slice s1.A3 m.init.length s1.c3] 41)))
              have HZ2 := Lib.hid (HZ1.out.grow (alloc_below w1 (.cells #[.string ⟨m.code.toArray⟩, .slice s1.A1 m.procs.length s1.c1, .slice s1.A2 m.imports.length s1.c2, .int .i64 m.data, .slice s1.A3 m.init.length s1.c3] 41)))
              have hqR : wg.heap.size ≠ w1.heap.size := by omega
              have hzR : wg.heap.size ≠ w.heap.size := by omega
              clear HBx1 HDI HOl1 HZ1
              generalize w1.alloc (.cells #[.string ⟨m.code.toArray⟩, .slice s1.A1 m.procs.length s1.c1, .slice s1.A2 m.imports.length s1.c2, .int .i64 m.data, .slice s1.A3 m.init.length s1.c3] 41) = w2 at *
              generalize w1.heap.size = q at *
              go_cut [] (fun wx => ∃ v1, DI wg v1 (.slice A2 sm.length a2) (.slice A3 (ordL k).length a3) (ns ++ [t2.take b.toNat]) sm (ordL k) ((s1, m) :: sm) wx ∧ Box wg.heap.size #[v1, .slice A2 sm.length a2, .slice A3 (ordL k).length a3] 28 wx ∧ Box q #[.string ⟨m.code.toArray⟩, .slice s1.A1 m.procs.length s1.c1, .slice s1.A2 m.imports.length s1.c2, .int .i64 m.data, .slice s1.A3 m.init.length s1.c3] 41 wx ∧ Box w.heap.size #[.slice none 0 0, .slice none 0 0, .slice none 0 0] 28 wx)
              case first =>
                have j1 : (0 : Int) ≤ 1 + (b.toNat : Int) := by omega
                have j2 : (1 : Int) + (b.toNat : Int) ≤ (t2.length : Int) + 1 := by omega
                have j3 : (1 : Int) ≤ 1 + (b.toNat : Int) := by omega
                have j4 : ((1 : Int) + (b.toNat : Int)).toNat = 1 + b.toNat := by omega
                have HX0 := Lib.hid (HX2.out.grow (drew_below w2))
                have HM0 := Lib.hid (HM2.out.grow (drew_below w2))
                have HI0 := Lib.hid (HI2.out.grow (drew_below w2))
                have HZ0 := Lib.hid (HZ2.out.grow (drew_below w2))
                have HSd := Lib.hid (show W1 wg.heap.size (.slice A1 ns.length a1) w2.drew from (HX0.out.cell 0).trans rfl)
                refine wp_region_M (W1 wg.heap.size (.slice A1 ns.length a1)) (fun _ => True) [8] (by kernel_rfl) ?_
                clear HX2 HM2 HI2 HZ2
                generalize w2.drew = W0 at *
                refine M_take (i := 0) (v := ?_) rfl (by kernel_rfl) (by kernel_rfl) (by kernel_rfl) (by kernel_rfl) (by kernel_rfl) (fun _ _ _ h => h) (Or.inl ⟨by rfl, ?_⟩) HSd.out trivial ?_
                rotate_left 1
                · intro w9 hS9
                  have l0 : w9.cell? ⟨wg.heap.size, 0, none⟩ = some (.slice A1 ns.length a1) := hS9
                  go_simp
                  try with_reducible rfl
                simp only [Act.put]
                try simp only [List.setIfInBounds_toArray]
                refine M_take (i := 1) (v := ?_) rfl (by kernel_rfl) (by kernel_rfl) (by kernel_rfl) (by kernel_rfl) (by kernel_rfl) (fun _ _ _ h => h) (Or.inl ⟨by rfl, ?_⟩) HSd.out trivial ?_
                rotate_left 1
                · intro w9 hS9
                  have l0 : w9.cell? ⟨wg.heap.size, 0, none⟩ = some (.slice A1 ns.length a1) := hS9
                  go_simp
                  try with_reducible rfl
                simp only [Act.put]
                try simp only [List.setIfInBounds_toArray]
                refine M_take (i := 2) (v := ?_) rfl (by kernel_rfl) (by kernel_rfl) (by kernel_rfl) (by kernel_rfl) (by kernel_rfl) (fun _ _ _ h => h) (Or.inl ⟨by rfl, ?_⟩) HSd.out trivial ?_
                rotate_left 1
                · intro w9 hS9
                  have l0 : w9.cell? ⟨wg.heap.size, 0, none⟩ = some (.slice A1 ns.length a1) := hS9
                  go_simp
                  try with_reducible rfl
                simp only [Act.put]
                try simp only [List.setIfInBounds_toArray]
                refine M_take (i := 3) (v := ?_) rfl (by kernel_rfl) (by kernel_rfl) (by kernel_rfl) (by kernel_rfl) (by kernel_rfl) (fun _ _ _ h => h) (Or.inl ⟨by rfl, ?_⟩) HSd.out trivial ?_
                rotate_left 1
                · intro w9 hS9
                  have l0 : w9.cell? ⟨wg.heap.size, 0, none⟩ = some (.slice A1 ns.length a1) := hS9
                  go_simp
                  try with_reducible rfl
                simp only [Act.put]
                try simp only [List.setIfInBounds_toArray]
                refine M_take (i := 4) (v := ?_) rfl (by kernel_rfl) (by kernel_rfl) (by kernel_rfl) (by kernel_rfl) (by kernel_rfl) (fun _ _ _ h => h) (Or.inl ⟨by rfl, ?_⟩) HSd.out trivial ?_
                rotate_left 1
                · intro w9 hS9
                  have l0 : w9.cell? ⟨wg.heap.size, 0, none⟩ = some (.slice A1 ns.length a1) := hS9
                  go_simp
                  try with_reducible rfl
                simp only [Act.put]
                try simp only [List.setIfInBounds_toArray]

                clear HSd
                refine M_all (rs := [5]) (by kernel_rfl) (by simp) ?_
                intro j hj
                simp only [List.mem_cons, List.not_mem_nil, or_false] at hj
                subst hj
                refine M_step rfl (by rfl) (fun K' hK => ?_)
                go_simp
                have HA1 := Lib.hid (alloc_below W0 (.cells (cellsS (t2.take b.toNat)).toArray 9))
                have HX1 := Lib.hid (HX0.out.grow HA1.out)
                have HM1 := Lib.hid (HM0.out.grow HA1.out)
                have HI1 := Lib.hid (HI0.out.grow HA1.out)
                have HZ1 := Lib.hid (HZ0.out.grow HA1.out)
                have BK1 := Lib.hid (show Blk W0.heap.size (cellsS (t2.take b.toNat)).toArray 9 (W0.alloc (.cells (cellsS (t2.take b.toNat)).toArray 9)) from heap_alloc_new W0 _)
                refine hK.out _ _ trivial ((HX1.out.cell 0).trans rfl) ?_
                try simp only [Act.put]
                try simp only [List.setIfInBounds_toArray]
                clear hK K'
                unfold cellsS at HA1 HX1 HM1 HI1 HZ1 BK1
                try simp only at HA1 HX1 HM1 HI1 HZ1 BK1
                generalize hW1 : W0.alloc _ = W1 at *
                generalize hg1 : W0.heap.size = g1 at *
                refine M_all (rs := [6]) (by kernel_rfl) (by simp) ?_
                intro j hj
                simp only [List.mem_cons, List.not_mem_nil, or_false] at hj
                subst hj
                refine M_step rfl (by rfl) (fun K' hK => ?_)
                refine step_app etStrs (by rfl) _ _ (by rfl) (wg.heap.size + 1) _ ns.length (ns.flatMap cellsS) (by rfl) HI1.out.o1 _ 1 (cellsS (t2.take b.toNat)) (by rfl) (BK1.out.src etStrs 1 1 rfl (by simp [Value.oneCell'])) (by have := HKn.out; omega) (by have := HKn.out; unfold maxLen; omega) HI1.out.lt ?_
                intro v2 W2 hA2
                have HX2 := Lib.hid (HX1.out.app' HI1.out.o1 hA2.grown (by decide))
                have HM2 := Lib.hid (HM1.out.app' HI1.out.o1 hA2.grown (by decide))
                have HZ2 := Lib.hid (HZ1.out.app' HI1.out.o1 hA2.grown (by decide))
                have HI2 := Lib.hid (HI1.out.app1 hA2)
                clear hA2
                refine hK.out _ _ trivial ((HX2.out.cell 0).trans rfl) ?_
                try simp only [Act.put]
                try simp only [List.setIfInBounds_toArray]
                clear hK K'
                refine M_all (rs := [7]) (by kernel_rfl) (by simp) ?_
                intro j hj
                simp only [List.mem_cons, List.not_mem_nil, or_false] at hj
                subst hj
                refine M_step rfl (by rfl) (fun K' hK => ?_)
                go_simp
                refine hK.out _ _ trivial ((HX2.out.cell 0).trans rfl) ?_
                try simp only [Act.put]
                try simp only [List.setIfInBounds_toArray]
                clear hK K'
                refine M_all (rs := [8]) (by kernel_rfl) (by simp) ?_
                intro j hj
                simp only [List.mem_cons, List.not_mem_nil, or_false] at hj
                subst hj
                obtain ⟨B1, n1, b1, hv1⟩ := own_sl HI2.out.o1
                subst hv1
                have c0 : W2.cell? ⟨wg.heap.size, 0, none⟩ = some (.slice A1 ns.length a1) := (HX2.out.cell 0).trans rfl
                have k0 := HX2.out.frozen 0
                refine M_late rfl (by rfl) (fun K' hK => ?_)
                go_simp
                refine hK.out _ _ trivial ?_
                try simp only [Act.put]
                try simp only [List.setIfInBounds_toArray]
                clear hK K'
                refine wpAnyH_done (by kernel_rfl) ?_ _
                have HE1 := Lib.hid (HI2.out.setR 0 (.slice B1 n1 b1))
                have HE2 := Lib.hid ((HX2.out.set 0 (.slice B1 n1 b1)).to (ds := #[.slice B1 n1 b1, .slice A2 sm.length a2, .slice A3 (ordL k).length a3]) (by simp))
                have HE3 := Lib.hid (HM2.out.setOther hqR 0 (.slice B1 n1 b1))
                have HE4 := Lib.hid (HZ2.out.setOther hzR 0 (.slice B1 n1 b1))
                go_wp2_with fail
                go_meet
                exact ⟨_, HE1.out, HE2.out, HE3.out, HE4.out⟩

              case rest =>
                obtain ⟨v1, hDI, hBX, hMX, hZX⟩ := hcut
                have HI3 := Lib.hid hDI
                have HX3 := Lib.hid hBX
                have HM3 := Lib.hid hMX
                have HZ3 := Lib.hid hZX
                clear hDI hBX hMX hZX HX2 HI2 HM2 HZ2
                obtain ⟨C1, n1, b1, hv1⟩ := own_sl HI3.out.o1
                subst hv1
                have c1 : wc.cell? ⟨wg.heap.size, 1, none⟩ = some (.slice A2 sm.length a2) := (HX3.out.cell 1).trans rfl
                have m0 : wc.cell? ⟨q, 0, none⟩ = some (.string ⟨m.code.toArray⟩) := (HM3.out.cell 0).trans rfl
                have m1 : wc.cell? ⟨q, 1, none⟩ = some (.slice s1.A1 m.procs.length s1.c1) := (HM3.out.cell 1).trans rfl
                have m2 : wc.cell? ⟨q, 2, none⟩ = some (.slice s1.A2 m.imports.length s1.c2) := (HM3.out.cell 2).trans rfl
                have m3 : wc.cell? ⟨q, 3, none⟩ = some (.int .i64 m.data) := (HM3.out.cell 3).trans rfl
                have m4 : wc.cell? ⟨q, 4, none⟩ = some (.slice s1.A3 m.init.length s1.c3) := (HM3.out.cell 4).trans rfl
                have HA := Lib.hid (alloc_below wc (.cells #[.string ⟨m.code.toArray⟩, .slice s1.A1 m.procs.length s1.c1, .slice s1.A2 m.imports.length s1.c2, .int .i64 m.data, .slice s1.A3 m.init.length s1.c3] 41))
                have HI4 := Lib.hid (HI3.out.grow HA.out)
                have HX4 := Lib.hid (HX3.out.grow HA.out)
                have HZ4 := Lib.hid (HZ3.out.grow HA.out)
                have hks : sm.length = k := HKs.out
                have HKs2 := HKs
                have hko := ordL_length k
                have hsz4 : wg.heap.size + 1 ≤ wc.heap.size + 1 := by have := HI3.out.lt; omega
                have hltc : wg.heap.size < wc.heap.size := HI3.out.lt
                have hkle : sm.length ≤ 255 := by omega
                have hkoe : (ordL k).length ≤ 255 := by omega
                clear hks hko HA HI3 HX3 HZ3 HM3
                go_upto_region 21 with (at_builtin; refine wpList_app etMods rfl _ _ rfl (wg.heap.size + 1) _ sm.length (sm.flatMap cellsM) rfl HI4.out.o2 _ 1 (cellsM (s1, m)) rfl (src_new etMods _ #[.string ⟨m.code.toArray⟩, .slice s1.A1 m.procs.length s1.c1, .slice s1.A2 m.imports.length s1.c2, .int .i64 m.data, .slice s1.A3 m.init.length s1.c3] _ 1 1 rfl (by simp [Value.oneCell'])) (by omega) (by unfold maxLen; omega) (by simp; omega) ?_; intro u5 x5 hA5; obtain ⟨C2, n2, b2, hu5⟩ := own_sl hA5.own; subst hu5; have HX5 := Lib.hid (HX4.out.appB HI4.out.o2 hA5.grown (Nat.lt_succ_self _)); have HZ5 := Lib.hid (HZ4.out.appB HI4.out.o2 hA5.grown (by omega)); have HI5 := Lib.hid (HI4.out.app2 hA5); clear hA5; have d5 := (HX5.out.cell 1).trans rfl; have f5 := HX5.out.frozen 1)
                have HI6 := Lib.hid (HI5.out.setR 1 (.slice C2 n2 b2))
                have HX6 := Lib.hid ((HX5.out.set 1 (.slice C2 n2 b2)).to (ds := #[.slice C1 n1 b1, .slice C2 n2 b2, .slice A3 (ordL k).length a3]) (by simp))
                have HZ6 := Lib.hid (HZ5.out.setOther hzR 1 (.slice C2 n2 b2))
                clear d5 f5 HI5 HX5 HZ5 HI4 HX4 HZ4 c1 m0 m1 m2 m3 m4
                generalize World.setCell x5 ⟨wg.heap.size, 1, none⟩ (.slice C2 n2 b2) = x6 at *
                have c2 : x6.cell? ⟨wg.heap.size, 2, none⟩ = some (.slice A3 (ordL k).length a3) := (HX6.out.cell 2).trans rfl
                have HA := Lib.hid (alloc_below x6 (.cells #[.int .i64 (k : Int)] 3))
                have HI7 := Lib.hid (HI6.out.grow HA.out)
                have HX7 := Lib.hid (HX6.out.grow HA.out)
                have HZ7 := Lib.hid (HZ6.out.grow HA.out)
                have hsz7 : wg.heap.size + 1 ≤ x6.heap.size + 1 := by have := HI6.out.lt; omega
                clear HA HI6 HX6 HZ6
                go_upto_region 22 with (at_builtin; refine wpList_app etInts rfl _ _ rfl (wg.heap.size + 1) _ (ordL k).length ((ordL k).flatMap cellsI) rfl HI7.out.o3 _ 1 (cellsI (k : Int)) rfl (src_new etInts _ #[.int .i64 (k : Int)] _ 1 1 rfl (by simp [Value.oneCell'])) (by omega) (by unfold maxLen; omega) (by simp; omega) ?_; intro u8 x8 hA8; obtain ⟨C3, n3, b3, hu8⟩ := own_sl hA8.own; subst hu8; have HX8 := Lib.hid (HX7.out.appB HI7.out.o3 hA8.grown (Nat.lt_succ_self _)); have HZ8 := Lib.hid (HZ7.out.appB HI7.out.o3 hA8.grown (by omega)); have HI8 := Lib.hid (HI7.out.app3 hA8); clear hA8; have d8 := (HX8.out.cell 2).trans rfl; have f8 := HX8.out.frozen 2)
                have HI9 := Lib.hid (HI8.out.setR 2 (.slice C3 n3 b3))
                have HX9 := Lib.hid ((HX8.out.set 2 (.slice C3 n3 b3)).to (ds := #[.slice C1 n1 b1, .slice C2 n2 b2, .slice C3 n3 b3]) (by simp))
                have HZ9 := Lib.hid (HZ8.out.setOther hzR 2 (.slice C3 n3 b3))
                clear d8 f8 HI8 HX8 HZ8 HI7 HX7 HZ7 c2
                generalize World.setCell x8 ⟨wg.heap.size, 2, none⟩ (.slice C3 n3 b3) = x9 at *
                have HD2 := Lib.hid (show DL wg t (k + 1) ⟨ns ++ [t2.take b.toNat], ms ++ [m], qr⟩ (sm ++ [(s1, m)]) (.slice C1 n1 b1) (.slice C2 n2 b2) (.slice C3 n3 b3) x9 from
                  ⟨HSt.out, by simp [HKn.out], by simp [HKm.out], by simp [HKs2.out], hql, short_snoc HKh.out (by rw [List.length_take]; have := b.toNat_lt; omega), by rw [ordL_succ]; exact di_more HI9.out, HX9.out⟩)
                have HOf2 := Lib.hid (off_snoc (p := (s1, m)) HOf.out HOn.out)
                clear HI9 HX9 HSt HKn HKm HKs HKs2 HKh HLn HNo y0 y1 y3 HOf HOn
                go_wp2_with fail
                go_roundg (gk - 1)
                case measure => omega
                case rel => exact ⟨k + 1, _, _, _, _, _, by omega, rfl, by go_num, HD2.out, HOf2.out, HZ9.out⟩

      · skip
        have hkc : k = c.toNat := by omega
        have HRd := Lib.hid (show readL (c :: t) = (if h.rest = [] ∧ imgB (halfI h) = true then some (halfI h) else none) by
          unfold readL; simp only; rw [show c.toNat = k by omega, HD.out.so])
        have HIm := Lib.hid (HD.out.img (by omega))
        have hkI : ¬ (k : Int) < (c.toNat : Int) := by omega
        obtain ⟨ns, ms, rest⟩ := h
        simp only at hrest
        cases rest with
        | cons b t2 =>
          have HN := Lib.hid (HBad.out (c :: t) rfl (by rw [HRd.out]; rw [if_neg (fun hh => absurd hh.1 (by simp))]))
          go_wp2_with fail
          exact rfdec_ret (set3 HZ.out) rfl rfl (decEnd_null HN.out.2 HN.out.1 (below3 HOl.out _ _ _))
        | nil =>
          have HMs := Lib.hid (show ms.length = sm.length by have := HD.out.mods; simp only at this; rw [this, List.length_map])
          have HOs := Lib.hid (show (ordL ns.length).length = (ordL k).length by have := HD.out.names; simp only at this; rw [this])
          have HCk := Lib.hid (may_at HIm.out.1 HMs.out HOs.out)
          have HBs := Lib.hid hkc
          clear hkc
          go_wp2_with fail
          refine (HCk.out).mono ?_
          rintro e w5 ⟨rfl, hb5⟩
          have HD5 := Lib.hid (HD.out.grow hb5)
          have HBx5 := Lib.hid (HBx.out.grow hb5)
          have HZ5 := Lib.hid (HZ.out.grow hb5)
          have HOl5 := Lib.hid (HOl.out.trans (hb5.mono (Nat.le_of_lt HZ.out.lt)))
          clear hb5 c0 c1 c2 z0 z1 z2 g0 g1 g2 HD HBx HOl HCk HZ
          have c0 : w5.cell? ⟨wg.heap.size, 0, none⟩ = some (.slice A1 ns.length a1) := (HBx5.out.cell 0).trans rfl
          have c1 : w5.cell? ⟨wg.heap.size, 1, none⟩ = some (.slice A2 sm.length a2) := (HBx5.out.cell 1).trans rfl
          have c2 : w5.cell? ⟨wg.heap.size, 2, none⟩ = some (.slice A3 (ordL k).length a3) := (HBx5.out.cell 2).trans rfl
          have z0 : w5.cell? ⟨w.heap.size, 0, none⟩ = some (.slice none 0 0) := (HZ5.out.cell 0).trans rfl
          have z1 : w5.cell? ⟨w.heap.size, 1, none⟩ = some (.slice none 0 0) := (HZ5.out.cell 1).trans rfl
          have z2 : w5.cell? ⟨w.heap.size, 2, none⟩ = some (.slice none 0 0) := (HZ5.out.cell 2).trans rfl
          have g0 := HZ5.out.frozen 0
          have g1 := HZ5.out.frozen 1
          have g2 := HZ5.out.frozen 2
          cases him : imgB (halfI ⟨ns, ms, []⟩) with
          | false =>
            have HN := Lib.hid (HBad.out (c :: t) rfl (by rw [HRd.out]; rw [if_neg (fun hh => by rw [him] at hh; cases hh.2)]))
            clear him
            go_wp2_with fail
            exact rfdec_ret (set3 HZ5.out) rfl rfl (decEnd_null HN.out.2 HN.out.1 (below3 HOl5.out _ _ _))
          | true =>
            have HN := Lib.hid (HGood.out (c :: t) (halfI ⟨ns, ms, []⟩) rfl (by rw [HRd.out]; rw [if_pos (by first | exact ⟨rfl, him⟩ | simp [him])]))
            clear him
            go_wp2_with fail
            exact rfdec_ret (set3 HZ5.out) rfl rfl (decEnd_ok2 HN.out.2 HN.out.1 (by rw [HBs.out]; exact Nat.le_of_lt_succ c.toNat_lt) hzlt HD5.out HOf.out (below3 HOl5.out _ _ _))

theorem refDecode_any (s : List UInt8) (hs : s.length ≤ 140737488355328) (w : World) : Calls Try.prog 17 #[.string ⟨s.toArray⟩] w (DecEnd w (decodeI s) (decodeE s)) := by
  by_cases h : s.length < 12 ∨ s.take 4 ≠ kindL
  · exact refDecode_short s hs w h
  · have h1 : ¬ s.length < 12 := fun h' => h (.inl h')
    have h2 : s.take 4 = kindL := by
      by_cases h' : s.take 4 = kindL
      · exact h'
      · exact absurd (.inr h') h
    by_cases h3 : (s.drop 4).take 8 = eightL (keyN (s.drop 12))
    · exact refDecode_main s hs w h1 h2 h3
    · exact refDecode_key s hs w h1 h2 h3
end Go.Proofs.Ytckbfocbainlpaa
