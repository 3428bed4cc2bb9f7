/- image. -/
import Derived.Test.YtabenhpjgjjgnaaGreatDoorCi
namespace Go.Proofs.YtabenhpjgjjgnaaGreatDoor
open Go.RowKit
set_option maxRecDepth 100000
theorem decode_bad {s : List UInt8} {b : List UInt8} (h1 : ¬ s.length < 12) (h2 : s.take 4 = kindL) (h3 : (s.drop 4).take 8 = eightL (keyN (s.drop 12))) (hb : s.drop 12 = b) (h4 : readL b = none) : decodeE s = 7 ∧ decodeI s = nullI := by
 have : decodeE s = 7 := by
  unfold decodeE
  rw [if_neg (by rintro (h | h); exact h1 h; exact h h2), if_neg (by simpa using h3), hb, h4]; rfl
 exact ⟨this, decodeI_null (by rw [this]; decide)⟩
theorem decode_good {s : List UInt8} {b : List UInt8} {i : ImgL} (h1 : ¬ s.length < 12) (h2 : s.take 4 = kindL) (h3 : (s.drop 4).take 8 = eightL (keyN (s.drop 12))) (hb : s.drop 12 = b) (h4 : readL b = some i) : decodeE s = 0 ∧ decodeI s = i := by
 have : decodeE s = 0 := by
  unfold decodeE
  rw [if_neg (by rintro (h | h); exact h1 h; exact h h2), if_neg (by simpa using h3), hb, h4]; rfl
 refine ⟨this, ?_⟩
 unfold decodeI
 rw [if_pos this, hb, h4]; rfl
theorem imgTo_none {t : List UInt8} {k n : Nat} (hk : k ≤ n) (h : imgTo k t = none) : imgTo n t = none := by
 induction n with
 | zero => obtain rfl : k = 0 := by omega
           exact h
 | succ n ih =>
   by_cases e : k = n + 1
   ·rw [← e]; exact h
   ·show (imgTo n t).bind stepI = none
    rw [ih (by omega)]; rfl
theorem readL_none {c : UInt8} {t : List UInt8} {k : Nat} {h : Half} (hk : k < c.toNat) (hs : imgTo k t = some h) (hn : stepI h = none) : readL (c :: t) = none := by
 have : imgTo (k + 1) t = none := by
  show (imgTo k t).bind stepI = none
  rw [hs]; exact hn
 unfold readL
 simp only
 rw [imgTo_none (n := c.toNat) (by omega) this]
theorem wrap64_small (x : Int) (h0 : 0 ≤ x) (h1 : x ≤ 65535) : wrap64 x = x := by unfold wrap64; omega
def SR (R : Nat) (v1 v2 v3 : Value) (W : World) : Prop := W.cell? ⟨R, 0, none⟩ = some v1 ∧ W.cell? ⟨R, 1, none⟩ = some v2 ∧ W.cell? ⟨R, 2, none⟩ = some v3
def SQ (q : Nat) (s : MS) (m : ModL) (W : World) : Prop :=
 W.cell? ⟨q, 0, none⟩ = some (.string ⟨m.code.toArray⟩) ∧ W.cell? ⟨q, 1, none⟩ = some (.slice s.A1 m.procs.length s.c1) ∧ W.cell? ⟨q, 2, none⟩ = some (.slice s.A2 m.imports.length s.c2) ∧ W.cell? ⟨q, 3, none⟩ = some (.int .i64 m.data) ∧ W.cell? ⟨q, 4, none⟩ = some (.slice s.A3 m.init.length s.c3)
theorem keep1R {R : Nat} {v1 v2 v3 : Value} {W : World} (hX : Box R #[v1, v2, v3] 55 W) : SR R v1 v2 v3 W := ⟨(hX.cell 0).trans rfl, (hX.cell 1).trans rfl, (hX.cell 2).trans rfl⟩
theorem keep2 {q : Nat} {s : MS} {m : ModL} {W : World} (hM : Box q #[.string ⟨m.code.toArray⟩, .slice s.A1 m.procs.length s.c1, .slice s.A2 m.imports.length s.c2, .int .i64 m.data, .slice s.A3 m.init.length s.c3] 68 W) : SQ q s m W :=
 ⟨(hM.cell 0).trans rfl, (hM.cell 1).trans rfl, (hM.cell 2).trans rfl, (hM.cell 3).trans rfl, (hM.cell 4).trans rfl⟩
theorem Box.app' {k : Nat} {cs : Array Value} {T e : TypeId} {W W' : World} {B size : Nat} {v : Value} {n : Nat} {xs : List Value} (h : Box k cs T W) (hown : W.ownsRow B e size v n xs) (hg : W.grownBy W' v.ownBlock) (hT : T ≠ e) : Box k cs T W' := ⟨Blk.app (cs := cs) h.1 hown hg hT, h.2⟩
theorem Box.offX {k : Nat} {cs : Array Value} {T : TypeId} {W W' : World} {X : Option Nat} (h : Box k cs T W) (hg : W.grownBy W' X) (hk : some k ≠ X) : Box k cs T W' := ⟨(hg.block k h.lt hk).trans h.1, h.2⟩
theorem DL.grow {w : World} {t : List UInt8} {k : Nat} {h : Half} {sm : List (MS × ModL)} {v1 v2 v3 : Value} {W W' : World} (d : DL w t k h sm v1 v2 v3 W) (hb : Below W.heap.size W W') : DL w t k h sm v1 v2 v3 W' :=
 ⟨d.so, d.names, d.mods, d.n, d.rest, d.short, d.di.grow hb, d.box.grow hb⟩
theorem short_snoc {ns : List (List UInt8)} {x : List UInt8} (h : ∀ y ∈ ns, y.length ≤ 255) (hx : x.length ≤ 255) : ∀ y ∈ ns ++ [x], y.length ≤ 255 := fun y hy => by
 rcases List.mem_append.1 hy with hy | hy
 ·exact h y hy
 ·rw [List.mem_singleton.1 hy]; exact hx
theorem di_more {w : World} {v1 v2 v3 : Value} {ns : List (List UInt8)} {sm : List (MS × ModL)} {os : List Int} {p : MS × ModL} {W : World} (h : DI w v1 v2 v3 ns (sm ++ [p]) os (p :: sm) W) : DI w v1 v2 v3 ns (sm ++ [p]) os (sm ++ [p]) W :=
 ⟨h.old, h.o1, h.o2, h.o3, fun q hq => h.mods q (by rcases List.mem_append.1 hq with hq | hq; exact List.mem_cons_of_mem _ hq; rw [List.mem_singleton.1 hq]; exact List.mem_cons_self), h.lt⟩
theorem DL.set {w : World} {t : List UInt8} {k : Nat} {h : Half} {sm : List (MS × ModL)} {v1 v2 v3 : Value} {W : World} (d : DL w t k h sm v1 v2 v3 W) : DL w t k h sm v1 v2 v3 (World.setCell (World.setCell (World.setCell W ⟨w.heap.size, 0, none⟩ v1) ⟨w.heap.size, 1, none⟩ v2) ⟨w.heap.size, 2, none⟩ v3) :=
 ⟨d.so, d.names, d.mods, d.n, d.rest, d.short, ((d.di.setR 0 v1).setR 1 v2).setR 2 v3, set3 d.box⟩
theorem decEnd_ok {s t : List UInt8} {w W : World} {k : Nat} {h : Half} {sm : List (MS × ModL)} {A1 A2 A3 : Option Addr} {n1 n2 n3 c1 c2 c3 : Nat} (hi : decodeI s = halfI h) (he : decodeE s = 0) (hk : k ≤ 255) (d : DL w t k h sm (.slice A1 n1 c1) (.slice A2 n2 c2) (.slice A3 n3 c3) W) :
 DecEnd w (decodeI s) (decodeE s) (.returned (.tuple #[.agg #[.slice A1 n1 c1, .slice A2 n2 c2, .slice A3 n3 c3], .int .i64 0])) W := by
 obtain ⟨hI, rfl, rfl, rfl⟩ := d.img hk
 rw [hi, he]
 exact ⟨_, rfl, hI, d.di.old⟩
theorem chk_at {W : World} {A1 A2 A3 : Option Addr} {a1 a2 a3 n2 n3 : Nat} {h : Half} (hI : ImgIn W ⟨A1, a1, A2, a2, A3, a3⟩ (halfI h)) (e2 : h.mods.length = n2) (e3 : (ordL h.names.length).length = n3) :
 Calls Tryz.prog 46 #[.agg #[.slice A1 h.names.length a1, .slice A2 n2 a2, .slice A3 n3 a3]] W (IntEnd W (errArg (imgB (halfI h)))) := by
 have := imgCheck_any ⟨A1, a1, A2, a2, A3, a3⟩ (halfI h) W hI
 subst e2 e3
 exact this
theorem own_sl {w : World} {B : Nat} {e : TypeId} {size : Nat} {v : Value} {n : Nat} {xs : List Value} (h : w.ownsRow B e size v n xs) : ∃ A m c, v = .slice A m c := by
 obtain ⟨A, c, h⟩ := own_slice' h
 exact ⟨A, n, c, h⟩
set_option maxHeartbeats 4000000 in
theorem decode_main (s : List UInt8) (hs : s.length ≤ 140737488355328) (w : World) (h1 : ¬ s.length < 12) (h2 : s.take 4 = kindL) (h3 : (s.drop 4).take 8 = eightL (keyN (s.drop 12))) : Calls Tryz.prog 15 #[.string ⟨s.toArray⟩] w (DecEnd w (decodeI s) (decodeE s)) := by
 have HBad := Lib.hid (fun (b : List UInt8) (hb : s.drop 12 = b) (h4 : readL b = none) => decode_bad h1 h2 h3 hb h4)
 have HGood := Lib.hid (fun (b : List UInt8) (i : ImgL) (hb : s.drop 12 = b) (h4 : readL b = some i) => decode_good h1 h2 h3 hb h4)
 have HA := Lib.hid (alloc_below w (.cells #[.slice none 0 0, .slice none 0 0, .slice none 0 0] 55))
 have HX := Lib.hid (R0 w)
 have x1 := ext_take s 4
 have x2 := ext_mid s
 have x3 := ext_drop s 12
 have d3 : s.take 4 = [83, 69, 80, 73] := h2
 have hI : (4 : Int) ≤ (s.length : Int) := by omega
 have hI2 : (12 : Int) ≤ (s.length : Int) := by omega
 have hl12 : (s.drop 12).length ≤ 140737488355328 := by rw [List.length_drop]; omega
 have f1 : (List.take 8 (List.drop 4 s) == eightL (keyN (List.drop 12 s))) = true := by simpa using h3
 have f2 : decide (List.take 8 (List.drop 4 s) = eightL (keyN (List.drop 12 s))) = true := by simpa using h3
 clear h2
 go_enter Tryz.func15, Tryz.ntmps15
 go_wp2_with fail
 generalize w.alloc (.cells #[.slice none 0 0, .slice none 0 0, .slice none 0 0] 55) = w0 at *
 refine wp_region_grow (by kernel_rfl) (by kernel_rfl) ?_
 repeat (first | go_big_quiet_step (first | (refine quiet_same' (keyOf_any (s.drop 12) hl12 _)) | (refine quiet_grow (eight_any (keyN (s.drop 12)) _))))
 refine wpQuiet_nil ?_
 rintro _ ⟨gx, rfl⟩
 have HXg := Lib.hid (HX.out.grow (growN_below w0 gx))
 have HBg := Lib.hid (HA.out.trans ((growN_below w0 gx).mono HA.out.size))
 generalize growN w0 gx = wg at *
 generalize hbody : s.drop 12 = body at *
 have HBody := Lib.hid hbody
 clear hbody h3 f1 f2
 have c0 : wg.cell? ⟨w.heap.size, 0, none⟩ = some (.slice none 0 0) := (HXg.out.cell 0).trans rfl
 have c1 : wg.cell? ⟨w.heap.size, 1, none⟩ = some (.slice none 0 0) := (HXg.out.cell 1).trans rfl
 have c2 : wg.cell? ⟨w.heap.size, 2, none⟩ = some (.slice none 0 0) := (HXg.out.cell 2).trans rfl
 have k0 := HXg.out.frozen 0
 have k1 := HXg.out.frozen 1
 have k2 := HXg.out.frozen 2
 cases body with
 | nil =>
   have HN := Lib.hid (HBad.out [] rfl rfl)
   go_wp2_with fail
   exact dec_ret (set3 HXg.out) rfl rfl (decEnd_null HN.out.2 HN.out.1 (below3 HBg.out _ _ _))
 | cons c t =>
   have x4 := ext_tail c t
   have hc : c.toNat < 256 := c.toNat_lt
   have y0 : ∀ hh, (⟨(c :: t).toArray⟩ : ByteArray)[0]'hh = c := fun _ => rfl
   have y1 : wrap64 (c.toNat : Int) = (c.toNat : Int) := wrap64_small _ (by omega) (by omega)
   simp only [List.length_cons] at hl12
   go_wp2_with fail
   clear c0 c1 c2 k0 k1 k2 x1 x2 x3 x4 y0 y1
   go_loopg [0, 38] (c.toNat) (fun g sv i wr => ∃ k h sm v1 v2 v3, k + g = c.toNat ∧ sv = .string ⟨h.rest.toArray⟩ ∧ i = .int .i64 (k : Nat) ∧ DL w t k h sm v1 v2 v3 wr)
   case atStart =>
    refine ⟨0, ⟨[], [], t⟩, [], .slice none 0 0, .slice none 0 0, .slice none 0 0, by omega, rfl, rfl, ?_⟩
    exact ⟨rfl, rfl, rfl, rfl, by simp only; omega, by simp, ⟨HBg.out, World.ownsRow_nil .., World.ownsRow_nil .., World.ownsRow_nil .., by simp, HXg.out.lt⟩, HXg.out⟩
   case round =>
    clear HXg HBg
    obtain ⟨k, h, sm, v1, v2, v3, hk, rfl, rfl, hD⟩ := hrel
    have HD := Lib.hid hD
    have hrest := hD.rest
    obtain ⟨A1, a1, rfl⟩ := own_slice' hD.di.o1
    obtain ⟨A2, a2, rfl⟩ := own_slice' hD.di.o2
    obtain ⟨A3, a3, rfl⟩ := own_slice' hD.di.o3
    have c0 : wr.cell? ⟨w.heap.size, 0, none⟩ = some (.slice A1 h.names.length a1) := (hD.box.cell 0).trans rfl
    have c1 : wr.cell? ⟨w.heap.size, 1, none⟩ = some (.slice A2 sm.length a2) := (hD.box.cell 1).trans rfl
    have c2 : wr.cell? ⟨w.heap.size, 2, none⟩ = some (.slice A3 (ordL k).length a3) := (hD.box.cell 2).trans rfl
    have k0 := hD.box.frozen 0
    have k1 := hD.box.frozen 1
    have k2 := hD.box.frozen 2
    have hlt0 := hD.box.lt
    have HBx := Lib.hid hD.box
    have HOl := Lib.hid hD.di.old
    clear hD
    by_cases hlt : k < c.toNat
    ·have hkI : (k : Int) < (c.toNat : Int) := by omega
     have HNo := Lib.hid (fun hn => HBad.out (c :: t) rfl (readL_none hlt HD.out.so hn))
     obtain ⟨ns, ms, rest⟩ := h
     simp only at hrest
     cases rest with
     | nil =>
       have HN := Lib.hid (HNo.out rfl)
       go_wp2_with fail
       exact dec_ret (set3 HBx.out) rfl rfl (decEnd_null HN.out.2 HN.out.1 (below3 HOl.out _ _ _))
     | cons b t2 =>
       have hb : b.toNat < 256 := b.toNat_lt
       have y0 : ∀ hh, (⟨(b :: t2).toArray⟩ : ByteArray)[0]'hh = b := fun _ => rfl
       have y2 : wrap64 (b.toNat : Int) = (b.toNat : Int) := wrap64_small _ (by omega) (by omega)
       simp only [List.length_cons] at hrest
       by_cases hsh : t2.length < b.toNat
       ·have HN := Lib.hid (HNo.out (by unfold stepI; simp only; rw [if_pos hsh]))
        go_wp2_with fail
        exact dec_ret (set3 HBx.out) rfl rfl (decEnd_null HN.out.2 HN.out.1 (below3 HOl.out _ _ _))
       ·have y1 := ext_cut b t2 b.toNat
        have hle : b.toNat ≤ t2.length := by omega
        have HLn := Lib.hid (show (t2.drop b.toNat).length ≤ 140737488355328 by rw [List.length_drop]; omega)
        have y3 := ext_name b t2 b.toNat
        go_wp2_with fail
        refine (unpack_any (t2.drop b.toNat) HLn.out _).mono ?_
        rintro e w1 ⟨hb1, hm⟩
        have HD1 := Lib.hid (HD.out.grow hb1)
        have HBx1 := Lib.hid (HBx.out.grow hb1)
        have HOl1 := Lib.hid (HOl.out.trans (hb1.mono (Nat.le_of_lt HBx.out.lt)))
        have hlt1 : w.heap.size < w1.heap.size := HBx1.out.lt
        have c0' : w1.cell? ⟨w.heap.size, 0, none⟩ = some (.slice A1 ns.length a1) := (HBx1.out.cell 0).trans rfl
        have c1' : w1.cell? ⟨w.heap.size, 1, none⟩ = some (.slice A2 sm.length a2) := (HBx1.out.cell 1).trans rfl
        have c2' : w1.cell? ⟨w.heap.size, 2, none⟩ = some (.slice A3 (ordL k).length a3) := (HBx1.out.cell 2).trans rfl
        have k0' := HBx1.out.frozen 0
        have k1' := HBx1.out.frozen 1
        have k2' := HBx1.out.frozen 2
        clear c0 c1 c2 k0 k1 k2
        cases hu : unpackL (t2.drop b.toNat) with
        | none =>
          rw [hu] at hm
          simp only at hm
          subst hm
          have HN := Lib.hid (HNo.out (by unfold stepI; simp only; rw [if_neg hsh, hu]))
          clear hu hb1
          go_wp2_with fail
          exact dec_ret ((set3 HBx1.out).grow (alloc_below _ _)) rfl rfl (decEnd_null HN.out.2 HN.out.1 ((below3 HOl1.out _ _ _).alloc (by simpa using Nat.le_of_lt hlt1) _))
        | some mq =>
          obtain ⟨m, qr⟩ := mq
          rw [hu] at hm
          simp only at hm
          obtain ⟨s1, w00, rfl, hle0, hF⟩ := hm
          have HSt := Lib.hid (show imgTo (k + 1) t = some ⟨ns ++ [t2.take b.toNat], ms ++ [m], qr⟩ by
           show (imgTo k t).bind stepI = _
           rw [HD.out.so]
           show stepI ⟨ns, ms, b :: t2⟩ = _
           unfold stepI; simp only; rw [if_neg hsh, hu])
          have hql : qr.length ≤ 140737488355328 := Nat.le_trans (unpack_len hu) HLn.out
          have HDI := Lib.hid (show DI w (.slice A1 ns.length a1) (.slice A2 sm.length a2) (.slice A3 (ordL k).length a3) ns sm (ordL k) ((s1, m) :: sm) w1 from HD1.out.di.more ⟨hF.mod, hF.off _ (fun g hg => Nat.lt_of_lt_of_le (HD.out.di.o1.lt g hg).2 hle0), hF.off _ (fun g hg => Nat.lt_of_lt_of_le (HD.out.di.o2.lt g hg).2 hle0), hF.off _ (fun g hg => Nat.lt_of_lt_of_le (HD.out.di.o3.lt g hg).2 hle0), hF.off _ (fun g hg => by injection hg with hg; subst hg; exact Nat.lt_of_lt_of_le HBx.out.lt hle0)⟩)
          have HKn := Lib.hid HD.out.names
          have HKs := Lib.hid HD.out.n
          have HKm := Lib.hid HD.out.mods
          have HKh := Lib.hid HD.out.short
          clear hu hb1 hF HD HD1 HBx HOl
          unfold modV
          go_upto_region 19 with (fail)
          have HX2 := Lib.hid (HBx1.out.grow (alloc_below w1 (.cells #[.string ⟨m.code.toArray⟩, .slice s1.A1 m.procs.length s1.c1, .slice s1.A2 m.imports.length s1.c2, .int .i64 m.data, .slice s1.A3 m.init.length s1.c3] 68)))
          have HM2 := Lib.hid (Box.new w1 #[.string ⟨m.code.toArray⟩, .slice s1.A1 m.procs.length s1.c1, .slice s1.A2 m.imports.length s1.c2, .int .i64 m.data, .slice s1.A3 m.init.length s1.c3] 68 (by decide))
          have HI2 := Lib.hid (HDI.out.grow (alloc_below w1 (.cells #[.string ⟨m.code.toArray⟩, .slice s1.A1 m.procs.length s1.c1, .slice s1.A2 m.imports.length s1.c2, .int .i64 m.data, .slice s1.A3 m.init.length s1.c3] 68)))
          have hq2 : some w1.heap.size ≠ (Value.slice A2 sm.length a2).ownBlock := fun e => by have := (HDI.out.o2.lt _ e.symm).2; omega
          have hqR : w.heap.size ≠ w1.heap.size := by omega
          clear c0' c1' c2' k0' k1' k2' HBx1 HDI HOl1
          generalize w1.alloc (.cells #[.string ⟨m.code.toArray⟩, .slice s1.A1 m.procs.length s1.c1, .slice s1.A2 m.imports.length s1.c2, .int .i64 m.data, .slice s1.A3 m.init.length s1.c3] 68) = w2 at *
          generalize w1.heap.size = q at *
          go_cut [] (fun wx => ∃ v1 v2 v3, DI w v1 v2 v3 (ns ++ [t2.take b.toNat]) (sm ++ [(s1, m)]) (ordL k ++ [(k : Int)]) ((s1, m) :: sm) wx ∧ Box w.heap.size #[v1, v2, v3] 55 wx)
          case first =>
           have j1 : (0 : Int) ≤ 1 + (b.toNat : Int) := by omega
           have j2 : (1 : Int) + (b.toNat : Int) ≤ (t2.length : Int) + 1 := by omega
           have j3 : (1 : Int) ≤ 1 + (b.toNat : Int) := by omega
           have j4 : ((1 : Int) + (b.toNat : Int)).toNat = 1 + b.toNat := by omega
           have HX0 := Lib.hid (HX2.out.grow (drew_below w2))
           have HM0 := Lib.hid (HM2.out.grow (drew_below w2))
           have HI0 := Lib.hid (HI2.out.grow (drew_below w2))
           have HSd := Lib.hid (keep1R HX0.out)
           have HSe := Lib.hid (keep2 HM0.out)
           refine wp_region_M (SR w.heap.size (.slice A1 ns.length a1) (.slice A2 sm.length a2) (.slice A3 (ordL k).length a3)) (SQ q s1 m) [20, 23, 26] (by kernel_rfl) ?_
           clear HX2 HM2 HI2
           generalize w2.drew = W0 at *
           refine M_take2 (i := 0) (v := ?_) rfl (by kernel_rfl) (by kernel_rfl) (by kernel_rfl) (by kernel_rfl) (fun _ _ _ h => h) (Or.inl ⟨by rfl, ?_⟩) HSd.out HSe.out ?_
           rotate_left 1
           ·intro w9 ⟨l0, l1, l2, l3, l4⟩
            go_simp
            try with_reducible rfl
           simp only [Act.put]
           try simp only [List.setIfInBounds_toArray]
           refine M_take (i := 1) (v := ?_) rfl (by kernel_rfl) (by kernel_rfl) (by kernel_rfl) (by kernel_rfl) (by kernel_rfl) (fun _ _ _ h => h) (Or.inl ⟨by rfl, ?_⟩) HSd.out HSe.out ?_
           rotate_left 1
           ·intro w9 ⟨l0, l1, l2⟩
            go_simp
            try with_reducible rfl
           simp only [Act.put]
           try simp only [List.setIfInBounds_toArray]
           refine M_take2 (i := 2) (v := ?_) rfl (by kernel_rfl) (by kernel_rfl) (by kernel_rfl) (by kernel_rfl) (fun _ _ _ h => h) (Or.inl ⟨by rfl, ?_⟩) HSd.out HSe.out ?_
           rotate_left 1
           ·intro w9 ⟨l0, l1, l2, l3, l4⟩
            go_simp
            try with_reducible rfl
           simp only [Act.put]
           try simp only [List.setIfInBounds_toArray]
           refine M_take2 (i := 3) (v := ?_) rfl (by kernel_rfl) (by kernel_rfl) (by kernel_rfl) (by kernel_rfl) (fun _ _ _ h => h) (Or.inl ⟨by rfl, ?_⟩) HSd.out HSe.out ?_
           rotate_left 1
           ·intro w9 ⟨l0, l1, l2, l3, l4⟩
            go_simp
            try with_reducible rfl
           simp only [Act.put]
           try simp only [List.setIfInBounds_toArray]
           refine M_take2 (i := 4) (v := ?_) rfl (by kernel_rfl) (by kernel_rfl) (by kernel_rfl) (by kernel_rfl) (fun _ _ _ h => h) (Or.inl ⟨by rfl, ?_⟩) HSd.out HSe.out ?_
           rotate_left 1
           ·intro w9 ⟨l0, l1, l2, l3, l4⟩
            go_simp
            try with_reducible rfl
           simp only [Act.put]
           try simp only [List.setIfInBounds_toArray]
           refine M_take2 (i := 7) (v := ?_) rfl (by kernel_rfl) (by kernel_rfl) (by kernel_rfl) (by kernel_rfl) (fun _ _ _ h => h) (Or.inl ⟨by rfl, ?_⟩) HSd.out HSe.out ?_
           rotate_left 1
           ·intro w9 ⟨l0, l1, l2, l3, l4⟩
            go_simp
            try with_reducible rfl
           simp only [Act.put]
           try simp only [List.setIfInBounds_toArray]
           refine M_take2 (i := 8) (v := ?_) rfl (by kernel_rfl) (by kernel_rfl) (by kernel_rfl) (by kernel_rfl) (fun _ _ _ h => h) (Or.inl ⟨by rfl, ?_⟩) HSd.out HSe.out ?_
           rotate_left 1
           ·intro w9 ⟨l0, l1, l2, l3, l4⟩
            go_simp
            try with_reducible rfl
           simp only [Act.put]
           try simp only [List.setIfInBounds_toArray]
           refine M_take (i := 9) (v := ?_) rfl (by kernel_rfl) (by kernel_rfl) (by kernel_rfl) (by kernel_rfl) (by kernel_rfl) (fun _ _ _ h => h) (Or.inl ⟨by rfl, ?_⟩) HSd.out HSe.out ?_
           rotate_left 1
           ·intro w9 ⟨l0, l1, l2⟩
            go_simp
            try with_reducible rfl
           simp only [Act.put]
           try simp only [List.setIfInBounds_toArray]
           refine M_take2 (i := 10) (v := ?_) rfl (by kernel_rfl) (by kernel_rfl) (by kernel_rfl) (by kernel_rfl) (fun _ _ _ h => h) (Or.inl ⟨by rfl, ?_⟩) HSd.out HSe.out ?_
           rotate_left 1
           ·intro w9 ⟨l0, l1, l2, l3, l4⟩
            go_simp
            try with_reducible rfl
           simp only [Act.put]
           try simp only [List.setIfInBounds_toArray]
           refine M_take2 (i := 13) (v := ?_) rfl (by kernel_rfl) (by kernel_rfl) (by kernel_rfl) (by kernel_rfl) (fun _ _ _ h => h) (Or.inl ⟨by rfl, ?_⟩) HSd.out HSe.out ?_
           rotate_left 1
           ·intro w9 ⟨l0, l1, l2, l3, l4⟩
            go_simp
            try with_reducible rfl
           simp only [Act.put]
           try simp only [List.setIfInBounds_toArray]
           refine M_take2 (i := 14) (v := ?_) rfl (by kernel_rfl) (by kernel_rfl) (by kernel_rfl) (by kernel_rfl) (fun _ _ _ h => h) (Or.inl ⟨by rfl, ?_⟩) HSd.out HSe.out ?_
           rotate_left 1
           ·intro w9 ⟨l0, l1, l2, l3, l4⟩
            go_simp
            try with_reducible rfl
           simp only [Act.put]
           try simp only [List.setIfInBounds_toArray]
           refine M_take (i := 15) (v := ?_) rfl (by kernel_rfl) (by kernel_rfl) (by kernel_rfl) (by kernel_rfl) (by kernel_rfl) (fun _ _ _ h => h) (Or.inl ⟨by rfl, ?_⟩) HSd.out HSe.out ?_
           rotate_left 1
           ·intro w9 ⟨l0, l1, l2⟩
            go_simp
            try with_reducible rfl
           simp only [Act.put]
           try simp only [List.setIfInBounds_toArray]
           refine M_take2 (i := 16) (v := ?_) rfl (by kernel_rfl) (by kernel_rfl) (by kernel_rfl) (by kernel_rfl) (fun _ _ _ h => h) (Or.inl ⟨by rfl, ?_⟩) HSd.out HSe.out ?_
           rotate_left 1
           ·intro w9 ⟨l0, l1, l2, l3, l4⟩
            go_simp
            try with_reducible rfl
           simp only [Act.put]
           try simp only [List.setIfInBounds_toArray]
           clear HSd HSe
           refine M_all (rs := [5, 11, 17]) (by kernel_rfl) (by simp) ?_
           intro j hj
           simp only [List.mem_cons, List.not_mem_nil, or_false] at hj
           rcases hj with rfl | rfl | rfl
           refine M_step rfl (by rfl) (fun K' hK => ?_)
           go_simp
           have HA := Lib.hid (alloc_below W0 (.cells (cellsS (t2.take b.toNat)).toArray 9))
           have HX1 := Lib.hid (HX0.out.grow HA.out)
           have HM1 := Lib.hid (HM0.out.grow HA.out)
           have HI1 := Lib.hid (HI0.out.grow HA.out)
           have BK11 := Lib.hid (show Blk W0.heap.size (cellsS (t2.take b.toNat)).toArray 9 (W0.alloc (.cells (cellsS (t2.take b.toNat)).toArray 9)) from heap_alloc_new W0 _)
           refine hK.out _ _ (keep2 HM1.out) (keep1R HX1.out) ?_
           try simp only [Act.put]
           try simp only [List.setIfInBounds_toArray]
           clear hK K' HA
           unfold cellsS at HX1 HM1 HI1 BK11
           try simp only at HX1 HM1 HI1 BK11
           generalize W0.alloc _ = W1 at *
           generalize W0.heap.size = g11 at *
           rotate_left 1
           refine M_step rfl (by rfl) (fun K' hK => ?_)
           go_simp
           have HA := Lib.hid (alloc_below W0 (.cells (cellsM (s1, m)).toArray 68))
           have HX1 := Lib.hid (HX0.out.grow HA.out)
           have HM1 := Lib.hid (HM0.out.grow HA.out)
           have HI1 := Lib.hid (HI0.out.grow HA.out)
           have BK21 := Lib.hid (show Blk W0.heap.size (cellsM (s1, m)).toArray 68 (W0.alloc (.cells (cellsM (s1, m)).toArray 68)) from heap_alloc_new W0 _)
           refine hK.out _ _ (keep2 HM1.out) (keep1R HX1.out) ?_
           try simp only [Act.put]
           try simp only [List.setIfInBounds_toArray]
           clear hK K' HA
           unfold cellsM at HX1 HM1 HI1 BK21
           try simp only at HX1 HM1 HI1 BK21
           generalize W0.alloc _ = W1 at *
           generalize W0.heap.size = g21 at *
           rotate_left 1
           refine M_step rfl (by rfl) (fun K' hK => ?_)
           go_simp
           have HA := Lib.hid (alloc_below W0 (.cells (cellsI (k : Int)).toArray 3))
           have HX1 := Lib.hid (HX0.out.grow HA.out)
           have HM1 := Lib.hid (HM0.out.grow HA.out)
           have HI1 := Lib.hid (HI0.out.grow HA.out)
           have BK31 := Lib.hid (show Blk W0.heap.size (cellsI (k : Int)).toArray 3 (W0.alloc (.cells (cellsI (k : Int)).toArray 3)) from heap_alloc_new W0 _)
           refine hK.out _ _ (keep2 HM1.out) (keep1R HX1.out) ?_
           try simp only [Act.put]
           try simp only [List.setIfInBounds_toArray]
           clear hK K' HA
           unfold cellsI at HX1 HM1 HI1 BK31
           try simp only at HX1 HM1 HI1 BK31
           generalize W0.alloc _ = W1 at *
           generalize W0.heap.size = g31 at *
           rotate_left 1
           all_goals first
           | (have g9 := BK11
              clear g9
              refine M_all (rs := [6, 11, 17]) (by kernel_rfl) (by simp) ?_
              intro j hj
              simp only [List.mem_cons, List.not_mem_nil, or_false] at hj
              rcases hj with rfl | rfl | rfl
              refine M_step rfl (by rfl) (fun K' hK => ?_)
              refine step_app etStrs (by rfl) _ _ (by rfl) (w.heap.size + 1) _ ns.length (ns.flatMap cellsS) (by rfl) HI1.out.o1 _ 1 (cellsS (t2.take b.toNat)) (by rfl) (BK11.out.src etStrs 1 1 rfl (by simp [Value.oneCell'])) (by have := HKn.out; have := HKs.out; have := ordL_length k; omega) (by have := HKn.out; have := HKs.out; have := ordL_length k; unfold maxLen; omega) HI1.out.lt ?_
              intro u1 W2 hA
              have HX2 := Lib.hid (HX1.out.app' HI1.out.o1 hA.grown (by decide))
              have HM2 := Lib.hid (HM1.out.app' HI1.out.o1 hA.grown (by decide))
              have HI2 := Lib.hid (HI1.out.app1 hA)
              clear hA
              refine hK.out _ _ (keep2 HM2.out) (keep1R HX2.out) ?_
              try simp only [Act.put]
              try simp only [List.setIfInBounds_toArray]
              clear hK K'
              focus
               refine M_take2 (i := 19) (v := ?_) rfl (by kernel_rfl) (by kernel_rfl) (by kernel_rfl) (by kernel_rfl) (fun _ _ _ h => h) (Or.inl ⟨by rfl, ?_⟩) (keep1R HX2.out) (keep2 HM2.out) ?_
               rotate_left 1
               ·intro w9 ⟨l0, l1, l2, l3, l4⟩
                go_simp
                try with_reducible rfl
               simp only [Act.put]
               try simp only [List.setIfInBounds_toArray]
              rotate_left 1
              refine M_step rfl (by rfl) (fun K' hK => ?_)
              go_simp
              have HA := Lib.hid (alloc_below W1 (.cells (cellsM (s1, m)).toArray 68))
              have HX2 := Lib.hid (HX1.out.grow HA.out)
              have HM2 := Lib.hid (HM1.out.grow HA.out)
              have HI2 := Lib.hid (HI1.out.grow HA.out)
              have BK12 := Lib.hid (BK11.out.grow HA.out)
              have BK22 := Lib.hid (show Blk W1.heap.size (cellsM (s1, m)).toArray 68 (W1.alloc (.cells (cellsM (s1, m)).toArray 68)) from heap_alloc_new W1 _)
              refine hK.out _ _ (keep2 HM2.out) (keep1R HX2.out) ?_
              try simp only [Act.put]
              try simp only [List.setIfInBounds_toArray]
              clear hK K' HA
              unfold cellsM at HX2 HM2 HI2 BK12 BK22
              try simp only at HX2 HM2 HI2 BK12 BK22
              generalize W1.alloc _ = W2 at *
              generalize W1.heap.size = g22 at *
              rotate_left 1
              refine M_step rfl (by rfl) (fun K' hK => ?_)
              go_simp
              have HA := Lib.hid (alloc_below W1 (.cells (cellsI (k : Int)).toArray 3))
              have HX2 := Lib.hid (HX1.out.grow HA.out)
              have HM2 := Lib.hid (HM1.out.grow HA.out)
              have HI2 := Lib.hid (HI1.out.grow HA.out)
              have BK12 := Lib.hid (BK11.out.grow HA.out)
              have BK32 := Lib.hid (show Blk W1.heap.size (cellsI (k : Int)).toArray 3 (W1.alloc (.cells (cellsI (k : Int)).toArray 3)) from heap_alloc_new W1 _)
              refine hK.out _ _ (keep2 HM2.out) (keep1R HX2.out) ?_
              try simp only [Act.put]
              try simp only [List.setIfInBounds_toArray]
              clear hK K' HA
              unfold cellsI at HX2 HM2 HI2 BK12 BK32
              try simp only at HX2 HM2 HI2 BK12 BK32
              generalize W1.alloc _ = W2 at *
              generalize W1.heap.size = g32 at *
              rotate_left 1)
           | (have g9 := BK21
              clear g9
              refine M_all (rs := [5, 17]) (by kernel_rfl) (by simp) ?_
              intro j hj
              simp only [List.mem_cons, List.not_mem_nil, or_false] at hj
              rcases hj with rfl | rfl
              refine M_step rfl (by rfl) (fun K' hK => ?_)
              go_simp
              have HA := Lib.hid (alloc_below W1 (.cells (cellsS (t2.take b.toNat)).toArray 9))
              have HX2 := Lib.hid (HX1.out.grow HA.out)
              have HM2 := Lib.hid (HM1.out.grow HA.out)
              have HI2 := Lib.hid (HI1.out.grow HA.out)
              have BK22 := Lib.hid (BK21.out.grow HA.out)
              have BK12 := Lib.hid (show Blk W1.heap.size (cellsS (t2.take b.toNat)).toArray 9 (W1.alloc (.cells (cellsS (t2.take b.toNat)).toArray 9)) from heap_alloc_new W1 _)
              refine hK.out _ _ (keep2 HM2.out) (keep1R HX2.out) ?_
              try simp only [Act.put]
              try simp only [List.setIfInBounds_toArray]
              clear hK K' HA
              unfold cellsS at HX2 HM2 HI2 BK12 BK22
              try simp only at HX2 HM2 HI2 BK12 BK22
              generalize W1.alloc _ = W2 at *
              generalize W1.heap.size = g12 at *
              rotate_left 1
              refine M_step rfl (by rfl) (fun K' hK => ?_)
              go_simp
              have HA := Lib.hid (alloc_below W1 (.cells (cellsI (k : Int)).toArray 3))
              have HX2 := Lib.hid (HX1.out.grow HA.out)
              have HM2 := Lib.hid (HM1.out.grow HA.out)
              have HI2 := Lib.hid (HI1.out.grow HA.out)
              have BK22 := Lib.hid (BK21.out.grow HA.out)
              have BK32 := Lib.hid (show Blk W1.heap.size (cellsI (k : Int)).toArray 3 (W1.alloc (.cells (cellsI (k : Int)).toArray 3)) from heap_alloc_new W1 _)
              refine hK.out _ _ (keep2 HM2.out) (keep1R HX2.out) ?_
              try simp only [Act.put]
              try simp only [List.setIfInBounds_toArray]
              clear hK K' HA
              unfold cellsI at HX2 HM2 HI2 BK22 BK32
              try simp only at HX2 HM2 HI2 BK22 BK32
              generalize W1.alloc _ = W2 at *
              generalize W1.heap.size = g32 at *
              rotate_left 1)
           | (have g9 := BK31
              clear g9
              refine M_all (rs := [5, 11]) (by kernel_rfl) (by simp) ?_
              intro j hj
              simp only [List.mem_cons, List.not_mem_nil, or_false] at hj
              rcases hj with rfl | rfl
              refine M_step rfl (by rfl) (fun K' hK => ?_)
              go_simp
              have HA := Lib.hid (alloc_below W1 (.cells (cellsS (t2.take b.toNat)).toArray 9))
              have HX2 := Lib.hid (HX1.out.grow HA.out)
              have HM2 := Lib.hid (HM1.out.grow HA.out)
              have HI2 := Lib.hid (HI1.out.grow HA.out)
              have BK32 := Lib.hid (BK31.out.grow HA.out)
              have BK12 := Lib.hid (show Blk W1.heap.size (cellsS (t2.take b.toNat)).toArray 9 (W1.alloc (.cells (cellsS (t2.take b.toNat)).toArray 9)) from heap_alloc_new W1 _)
              refine hK.out _ _ (keep2 HM2.out) (keep1R HX2.out) ?_
              try simp only [Act.put]
              try simp only [List.setIfInBounds_toArray]
              clear hK K' HA
              unfold cellsS at HX2 HM2 HI2 BK12 BK32
              try simp only at HX2 HM2 HI2 BK12 BK32
              generalize W1.alloc _ = W2 at *
              generalize W1.heap.size = g12 at *
              rotate_left 1
              refine M_step rfl (by rfl) (fun K' hK => ?_)
              go_simp
              have HA := Lib.hid (alloc_below W1 (.cells (cellsM (s1, m)).toArray 68))
              have HX2 := Lib.hid (HX1.out.grow HA.out)
              have HM2 := Lib.hid (HM1.out.grow HA.out)
              have HI2 := Lib.hid (HI1.out.grow HA.out)
              have BK32 := Lib.hid (BK31.out.grow HA.out)
              have BK22 := Lib.hid (show Blk W1.heap.size (cellsM (s1, m)).toArray 68 (W1.alloc (.cells (cellsM (s1, m)).toArray 68)) from heap_alloc_new W1 _)
              refine hK.out _ _ (keep2 HM2.out) (keep1R HX2.out) ?_
              try simp only [Act.put]
              try simp only [List.setIfInBounds_toArray]
              clear hK K' HA
              unfold cellsM at HX2 HM2 HI2 BK22 BK32
              try simp only at HX2 HM2 HI2 BK22 BK32
              generalize W1.alloc _ = W2 at *
              generalize W1.heap.size = g22 at *
              rotate_left 1)
           all_goals first
           | (have g9 := u1
              clear g9
              refine M_all (rs := [11, 17]) (by kernel_rfl) (by simp) ?_
              intro j hj
              simp only [List.mem_cons, List.not_mem_nil, or_false] at hj
              rcases hj with rfl | rfl
              refine M_step rfl (by rfl) (fun K' hK => ?_)
              go_simp
              have HA := Lib.hid (alloc_below W2 (.cells (cellsM (s1, m)).toArray 68))
              have HX3 := Lib.hid (HX2.out.grow HA.out)
              have HM3 := Lib.hid (HM2.out.grow HA.out)
              have HI3 := Lib.hid (HI2.out.grow HA.out)
              have BK23 := Lib.hid (show Blk W2.heap.size (cellsM (s1, m)).toArray 68 (W2.alloc (.cells (cellsM (s1, m)).toArray 68)) from heap_alloc_new W2 _)
              refine hK.out _ _ (keep2 HM3.out) (keep1R HX3.out) ?_
              try simp only [Act.put]
              try simp only [List.setIfInBounds_toArray]
              clear hK K' HA
              unfold cellsM at HX3 HM3 HI3 BK23
              try simp only at HX3 HM3 HI3 BK23
              generalize W2.alloc _ = W3 at *
              generalize W2.heap.size = g23 at *
              rotate_left 1
              refine M_step rfl (by rfl) (fun K' hK => ?_)
              go_simp
              have HA := Lib.hid (alloc_below W2 (.cells (cellsI (k : Int)).toArray 3))
              have HX3 := Lib.hid (HX2.out.grow HA.out)
              have HM3 := Lib.hid (HM2.out.grow HA.out)
              have HI3 := Lib.hid (HI2.out.grow HA.out)
              have BK33 := Lib.hid (show Blk W2.heap.size (cellsI (k : Int)).toArray 3 (W2.alloc (.cells (cellsI (k : Int)).toArray 3)) from heap_alloc_new W2 _)
              refine hK.out _ _ (keep2 HM3.out) (keep1R HX3.out) ?_
              try simp only [Act.put]
              try simp only [List.setIfInBounds_toArray]
              clear hK K' HA
              unfold cellsI at HX3 HM3 HI3 BK33
              try simp only at HX3 HM3 HI3 BK33
              generalize W2.alloc _ = W3 at *
              generalize W2.heap.size = g33 at *
              rotate_left 1)
           | (have g9 := BK12
              clear g9
              have g9 := BK22
              clear g9
              refine M_all (rs := [6, 17]) (by kernel_rfl) (by simp) ?_
              intro j hj
              simp only [List.mem_cons, List.not_mem_nil, or_false] at hj
              rcases hj with rfl | rfl
              refine M_step rfl (by rfl) (fun K' hK => ?_)
              refine step_app etStrs (by rfl) _ _ (by rfl) (w.heap.size + 1) _ ns.length (ns.flatMap cellsS) (by rfl) HI2.out.o1 _ 1 (cellsS (t2.take b.toNat)) (by rfl) (BK12.out.src etStrs 1 1 rfl (by simp [Value.oneCell'])) (by have := HKn.out; have := HKs.out; have := ordL_length k; omega) (by have := HKn.out; have := HKs.out; have := ordL_length k; unfold maxLen; omega) HI2.out.lt ?_
              intro u1 W3 hA
              have HX3 := Lib.hid (HX2.out.app' HI2.out.o1 hA.grown (by decide))
              have HM3 := Lib.hid (HM2.out.app' HI2.out.o1 hA.grown (by decide))
              have HI3 := Lib.hid (HI2.out.app1 hA)
              have BK23 := Lib.hid (BK22.out.app HI2.out.o1 hA.grown (by decide))
              clear hA
              refine hK.out _ _ (keep2 HM3.out) (keep1R HX3.out) ?_
              try simp only [Act.put]
              try simp only [List.setIfInBounds_toArray]
              clear hK K'
              focus
               refine M_take2 (i := 19) (v := ?_) rfl (by kernel_rfl) (by kernel_rfl) (by kernel_rfl) (by kernel_rfl) (fun _ _ _ h => h) (Or.inl ⟨by rfl, ?_⟩) (keep1R HX3.out) (keep2 HM3.out) ?_
               rotate_left 1
               ·intro w9 ⟨l0, l1, l2, l3, l4⟩
                go_simp
                try with_reducible rfl
               simp only [Act.put]
               try simp only [List.setIfInBounds_toArray]
              rotate_left 1
              refine M_step rfl (by rfl) (fun K' hK => ?_)
              go_simp
              have HA := Lib.hid (alloc_below W2 (.cells (cellsI (k : Int)).toArray 3))
              have HX3 := Lib.hid (HX2.out.grow HA.out)
              have HM3 := Lib.hid (HM2.out.grow HA.out)
              have HI3 := Lib.hid (HI2.out.grow HA.out)
              have BK13 := Lib.hid (BK12.out.grow HA.out)
              have BK23 := Lib.hid (BK22.out.grow HA.out)
              have BK33 := Lib.hid (show Blk W2.heap.size (cellsI (k : Int)).toArray 3 (W2.alloc (.cells (cellsI (k : Int)).toArray 3)) from heap_alloc_new W2 _)
              refine hK.out _ _ (keep2 HM3.out) (keep1R HX3.out) ?_
              try simp only [Act.put]
              try simp only [List.setIfInBounds_toArray]
              clear hK K' HA
              unfold cellsI at HX3 HM3 HI3 BK13 BK23 BK33
              try simp only at HX3 HM3 HI3 BK13 BK23 BK33
              generalize W2.alloc _ = W3 at *
              generalize W2.heap.size = g33 at *
              rotate_left 1)
           | (have g9 := BK12
              clear g9
              have g9 := BK32
              clear g9
              refine M_all (rs := [6, 11]) (by kernel_rfl) (by simp) ?_
              intro j hj
              simp only [List.mem_cons, List.not_mem_nil, or_false] at hj
              rcases hj with rfl | rfl
              refine M_step rfl (by rfl) (fun K' hK => ?_)
              refine step_app etStrs (by rfl) _ _ (by rfl) (w.heap.size + 1) _ ns.length (ns.flatMap cellsS) (by rfl) HI2.out.o1 _ 1 (cellsS (t2.take b.toNat)) (by rfl) (BK12.out.src etStrs 1 1 rfl (by simp [Value.oneCell'])) (by have := HKn.out; have := HKs.out; have := ordL_length k; omega) (by have := HKn.out; have := HKs.out; have := ordL_length k; unfold maxLen; omega) HI2.out.lt ?_
              intro u1 W3 hA
              have HX3 := Lib.hid (HX2.out.app' HI2.out.o1 hA.grown (by decide))
              have HM3 := Lib.hid (HM2.out.app' HI2.out.o1 hA.grown (by decide))
              have HI3 := Lib.hid (HI2.out.app1 hA)
              have BK33 := Lib.hid (BK32.out.app HI2.out.o1 hA.grown (by decide))
              clear hA
              refine hK.out _ _ (keep2 HM3.out) (keep1R HX3.out) ?_
              try simp only [Act.put]
              try simp only [List.setIfInBounds_toArray]
              clear hK K'
              focus
               refine M_take2 (i := 19) (v := ?_) rfl (by kernel_rfl) (by kernel_rfl) (by kernel_rfl) (by kernel_rfl) (fun _ _ _ h => h) (Or.inl ⟨by rfl, ?_⟩) (keep1R HX3.out) (keep2 HM3.out) ?_
               rotate_left 1
               ·intro w9 ⟨l0, l1, l2, l3, l4⟩
                go_simp
                try with_reducible rfl
               simp only [Act.put]
               try simp only [List.setIfInBounds_toArray]
              rotate_left 1
              refine M_step rfl (by rfl) (fun K' hK => ?_)
              go_simp
              have HA := Lib.hid (alloc_below W2 (.cells (cellsM (s1, m)).toArray 68))
              have HX3 := Lib.hid (HX2.out.grow HA.out)
              have HM3 := Lib.hid (HM2.out.grow HA.out)
              have HI3 := Lib.hid (HI2.out.grow HA.out)
              have BK13 := Lib.hid (BK12.out.grow HA.out)
              have BK33 := Lib.hid (BK32.out.grow HA.out)
              have BK23 := Lib.hid (show Blk W2.heap.size (cellsM (s1, m)).toArray 68 (W2.alloc (.cells (cellsM (s1, m)).toArray 68)) from heap_alloc_new W2 _)
              refine hK.out _ _ (keep2 HM3.out) (keep1R HX3.out) ?_
              try simp only [Act.put]
              try simp only [List.setIfInBounds_toArray]
              clear hK K' HA
              unfold cellsM at HX3 HM3 HI3 BK13 BK23 BK33
              try simp only at HX3 HM3 HI3 BK13 BK23 BK33
              generalize W2.alloc _ = W3 at *
              generalize W2.heap.size = g23 at *
              rotate_left 1)
           | (have g9 := BK22
              clear g9
              have g9 := BK32
              clear g9
              refine M_all (rs := [5]) (by kernel_rfl) (by simp) ?_
              intro j hj
              simp only [List.mem_cons, List.not_mem_nil, or_false] at hj
              subst hj
              refine M_step rfl (by rfl) (fun K' hK => ?_)
              go_simp
              have HA := Lib.hid (alloc_below W2 (.cells (cellsS (t2.take b.toNat)).toArray 9))
              have HX3 := Lib.hid (HX2.out.grow HA.out)
              have HM3 := Lib.hid (HM2.out.grow HA.out)
              have HI3 := Lib.hid (HI2.out.grow HA.out)
              have BK23 := Lib.hid (BK22.out.grow HA.out)
              have BK33 := Lib.hid (BK32.out.grow HA.out)
              have BK13 := Lib.hid (show Blk W2.heap.size (cellsS (t2.take b.toNat)).toArray 9 (W2.alloc (.cells (cellsS (t2.take b.toNat)).toArray 9)) from heap_alloc_new W2 _)
              refine hK.out _ _ (keep2 HM3.out) (keep1R HX3.out) ?_
              try simp only [Act.put]
              try simp only [List.setIfInBounds_toArray]
              clear hK K' HA
              unfold cellsS at HX3 HM3 HI3 BK13 BK23 BK33
              try simp only at HX3 HM3 HI3 BK13 BK23 BK33
              generalize W2.alloc _ = W3 at *
              generalize W2.heap.size = g13 at *)
           all_goals first
           | (have g9 := u1
              clear g9
              have g9 := BK23
              clear g9
              refine M_all (rs := [12, 17]) (by kernel_rfl) (by simp) ?_
              intro j hj
              simp only [List.mem_cons, List.not_mem_nil, or_false] at hj
              rcases hj with rfl | rfl
              refine M_step rfl (by rfl) (fun K' hK => ?_)
              refine step_app etMods (by rfl) _ _ (by rfl) (w.heap.size + 1) _ sm.length (sm.flatMap cellsM) (by rfl) HI3.out.o2 _ 1 (cellsM (s1, m)) (by rfl) (BK23.out.src etMods 1 1 rfl (by simp [Value.oneCell'])) (by have := HKn.out; have := HKs.out; have := ordL_length k; omega) (by have := HKn.out; have := HKs.out; have := ordL_length k; unfold maxLen; omega) HI3.out.lt ?_
              intro u2 W4 hA
              have HX4 := Lib.hid (HX3.out.app' HI3.out.o2 hA.grown (by decide))
              have HM4 := Lib.hid (HM3.out.offX hA.grown hq2)
              have HI4 := Lib.hid (HI3.out.app2 hA)
              clear hA
              refine hK.out _ _ (keep2 HM4.out) (keep1R HX4.out) ?_
              try simp only [Act.put]
              try simp only [List.setIfInBounds_toArray]
              clear hK K'
              rotate_left 1
              refine M_step rfl (by rfl) (fun K' hK => ?_)
              go_simp
              have HA := Lib.hid (alloc_below W3 (.cells (cellsI (k : Int)).toArray 3))
              have HX4 := Lib.hid (HX3.out.grow HA.out)
              have HM4 := Lib.hid (HM3.out.grow HA.out)
              have HI4 := Lib.hid (HI3.out.grow HA.out)
              have BK24 := Lib.hid (BK23.out.grow HA.out)
              have BK34 := Lib.hid (show Blk W3.heap.size (cellsI (k : Int)).toArray 3 (W3.alloc (.cells (cellsI (k : Int)).toArray 3)) from heap_alloc_new W3 _)
              refine hK.out _ _ (keep2 HM4.out) (keep1R HX4.out) ?_
              try simp only [Act.put]
              try simp only [List.setIfInBounds_toArray]
              clear hK K' HA
              unfold cellsI at HX4 HM4 HI4 BK24 BK34
              try simp only at HX4 HM4 HI4 BK24 BK34
              generalize W3.alloc _ = W4 at *
              generalize W3.heap.size = g34 at *
              rotate_left 1)
           | (have g9 := u1
              clear g9
              have g9 := BK33
              clear g9
              refine M_all (rs := [11]) (by kernel_rfl) (by simp) ?_
              intro j hj
              simp only [List.mem_cons, List.not_mem_nil, or_false] at hj
              subst hj
              refine M_step rfl (by rfl) (fun K' hK => ?_)
              go_simp
              have HA := Lib.hid (alloc_below W3 (.cells (cellsM (s1, m)).toArray 68))
              have HX4 := Lib.hid (HX3.out.grow HA.out)
              have HM4 := Lib.hid (HM3.out.grow HA.out)
              have HI4 := Lib.hid (HI3.out.grow HA.out)
              have BK34 := Lib.hid (BK33.out.grow HA.out)
              have BK24 := Lib.hid (show Blk W3.heap.size (cellsM (s1, m)).toArray 68 (W3.alloc (.cells (cellsM (s1, m)).toArray 68)) from heap_alloc_new W3 _)
              refine hK.out _ _ (keep2 HM4.out) (keep1R HX4.out) ?_
              try simp only [Act.put]
              try simp only [List.setIfInBounds_toArray]
              clear hK K' HA
              unfold cellsM at HX4 HM4 HI4 BK24 BK34
              try simp only at HX4 HM4 HI4 BK24 BK34
              generalize W3.alloc _ = W4 at *
              generalize W3.heap.size = g24 at *)
           | (have g9 := BK13
              clear g9
              have g9 := BK23
              clear g9
              have g9 := BK33
              clear g9
              refine M_all (rs := [6]) (by kernel_rfl) (by simp) ?_
              intro j hj
              simp only [List.mem_cons, List.not_mem_nil, or_false] at hj
              subst hj
              refine M_step rfl (by rfl) (fun K' hK => ?_)
              refine step_app etStrs (by rfl) _ _ (by rfl) (w.heap.size + 1) _ ns.length (ns.flatMap cellsS) (by rfl) HI3.out.o1 _ 1 (cellsS (t2.take b.toNat)) (by rfl) (BK13.out.src etStrs 1 1 rfl (by simp [Value.oneCell'])) (by have := HKn.out; have := HKs.out; have := ordL_length k; omega) (by have := HKn.out; have := HKs.out; have := ordL_length k; unfold maxLen; omega) HI3.out.lt ?_
              intro u1 W4 hA
              have HX4 := Lib.hid (HX3.out.app' HI3.out.o1 hA.grown (by decide))
              have HM4 := Lib.hid (HM3.out.app' HI3.out.o1 hA.grown (by decide))
              have HI4 := Lib.hid (HI3.out.app1 hA)
              have BK24 := Lib.hid (BK23.out.app HI3.out.o1 hA.grown (by decide))
              have BK34 := Lib.hid (BK33.out.app HI3.out.o1 hA.grown (by decide))
              clear hA
              refine hK.out _ _ (keep2 HM4.out) (keep1R HX4.out) ?_
              try simp only [Act.put]
              try simp only [List.setIfInBounds_toArray]
              clear hK K'
              focus
               refine M_take2 (i := 19) (v := ?_) rfl (by kernel_rfl) (by kernel_rfl) (by kernel_rfl) (by kernel_rfl) (fun _ _ _ h => h) (Or.inl ⟨by rfl, ?_⟩) (keep1R HX4.out) (keep2 HM4.out) ?_
               rotate_left 1
               ·intro w9 ⟨l0, l1, l2, l3, l4⟩
                go_simp
                try with_reducible rfl
               simp only [Act.put]
               try simp only [List.setIfInBounds_toArray])
           all_goals first
           | (have g9 := u2
              clear g9
              refine M_all (rs := [17]) (by kernel_rfl) (by simp) ?_
              intro j hj
              simp only [List.mem_cons, List.not_mem_nil, or_false] at hj
              subst hj
              refine M_step rfl (by rfl) (fun K' hK => ?_)
              go_simp
              have HA := Lib.hid (alloc_below W4 (.cells (cellsI (k : Int)).toArray 3))
              have HX5 := Lib.hid (HX4.out.grow HA.out)
              have HM5 := Lib.hid (HM4.out.grow HA.out)
              have HI5 := Lib.hid (HI4.out.grow HA.out)
              have BK35 := Lib.hid (show Blk W4.heap.size (cellsI (k : Int)).toArray 3 (W4.alloc (.cells (cellsI (k : Int)).toArray 3)) from heap_alloc_new W4 _)
              refine hK.out _ _ (keep2 HM5.out) (keep1R HX5.out) ?_
              try simp only [Act.put]
              try simp only [List.setIfInBounds_toArray]
              clear hK K' HA
              unfold cellsI at HX5 HM5 HI5 BK35
              try simp only at HX5 HM5 HI5 BK35
              generalize W4.alloc _ = W5 at *
              generalize W4.heap.size = g35 at *)
           | (have g9 := u1
              clear g9
              have g9 := BK24
              clear g9
              have g9 := BK34
              clear g9
              refine M_all (rs := [12]) (by kernel_rfl) (by simp) ?_
              intro j hj
              simp only [List.mem_cons, List.not_mem_nil, or_false] at hj
              subst hj
              refine M_step rfl (by rfl) (fun K' hK => ?_)
              refine step_app etMods (by rfl) _ _ (by rfl) (w.heap.size + 1) _ sm.length (sm.flatMap cellsM) (by rfl) HI4.out.o2 _ 1 (cellsM (s1, m)) (by rfl) (BK24.out.src etMods 1 1 rfl (by simp [Value.oneCell'])) (by have := HKn.out; have := HKs.out; have := ordL_length k; omega) (by have := HKn.out; have := HKs.out; have := ordL_length k; unfold maxLen; omega) HI4.out.lt ?_
              intro u2 W5 hA
              have HX5 := Lib.hid (HX4.out.app' HI4.out.o2 hA.grown (by decide))
              have HM5 := Lib.hid (HM4.out.offX hA.grown hq2)
              have HI5 := Lib.hid (HI4.out.app2 hA)
              have BK35 := Lib.hid (BK34.out.app HI4.out.o2 hA.grown (by decide))
              clear hA
              refine hK.out _ _ (keep2 HM5.out) (keep1R HX5.out) ?_
              try simp only [Act.put]
              try simp only [List.setIfInBounds_toArray]
              clear hK K')
           all_goals
            have g9 := u2
            clear g9
            have g9 := BK35
            clear g9
            refine M_all (rs := [18]) (by kernel_rfl) (by simp) ?_
            intro j hj
            simp only [List.mem_cons, List.not_mem_nil, or_false] at hj
            subst hj
            refine M_step rfl (by rfl) (fun K' hK => ?_)
            refine step_app etInts (by rfl) _ _ (by rfl) (w.heap.size + 1) _ (ordL k).length ((ordL k).flatMap cellsI) (by rfl) HI5.out.o3 _ 1 (cellsI (k : Int)) (by rfl) (BK35.out.src etInts 1 1 rfl (by simp [Value.oneCell'])) (by have := HKn.out; have := HKs.out; have := ordL_length k; omega) (by have := HKn.out; have := HKs.out; have := ordL_length k; unfold maxLen; omega) HI5.out.lt ?_
            intro u3 W6 hA
            have HX6 := Lib.hid (HX5.out.app' HI5.out.o3 hA.grown (by decide))
            have HM6 := Lib.hid (HM5.out.app' HI5.out.o3 hA.grown (by decide))
            have HI6 := Lib.hid (HI5.out.app3 hA)
            clear hA
            refine hK.out _ _ (keep2 HM6.out) (keep1R HX6.out) ?_
            try simp only [Act.put]
            try simp only [List.setIfInBounds_toArray]
            clear hK K'
           all_goals
            refine M_all (rs := [20]) (by kernel_rfl) (by simp) ?_
            intro j hj
            simp only [List.mem_cons, List.not_mem_nil, or_false] at hj
            subst hj
            obtain ⟨B1, n1, b1, hv1⟩ := own_sl HI6.out.o1
            obtain ⟨B2, n2, b2, hv2⟩ := own_sl HI6.out.o2
            obtain ⟨B3, n3, b3, hv3⟩ := own_sl HI6.out.o3
            subst hv1 hv2 hv3
            have c0 : W6.cell? ⟨w.heap.size, 0, none⟩ = some (.slice A1 ns.length a1) := (HX6.out.cell 0).trans rfl
            have c1 : W6.cell? ⟨w.heap.size, 1, none⟩ = some (.slice A2 sm.length a2) := (HX6.out.cell 1).trans rfl
            have c2 : W6.cell? ⟨w.heap.size, 2, none⟩ = some (.slice A3 (ordL k).length a3) := (HX6.out.cell 2).trans rfl
            have k0 := HX6.out.frozen 0
            have k1 := HX6.out.frozen 1
            have k2 := HX6.out.frozen 2
            refine M_late rfl (by rfl) (fun K' hK => ?_)
            go_simp
            refine hK.out _ _ (keep2 (HM6.out.setOther hqR 0 _)) ?_
            try simp only [Act.put]
            try simp only [List.setIfInBounds_toArray]
            clear hK K'
            refine wpAnyH_ready (rs := [21]) (by kernel_rfl) (by simp) ?_
            refine AllReadyH.cons rfl (fun K' hK => ?_) AllReadyH.nil
            go_simp
            refine hK.out _ _ (keep2 (HM6.out.setOther hqR 0 _)) (fun _ => ?_)
            try simp only [Act.put]
            try simp only [List.setIfInBounds_toArray]
            clear hK K'
            refine wpAnyH_ready (rs := [22]) (by kernel_rfl) (by simp) ?_
            refine AllReadyH.cons rfl (fun K' hK => ?_) AllReadyH.nil
            go_simp
            refine hK.out _ _ (keep2 (HM6.out.setOther hqR 0 _)) (fun _ => ?_)
            try simp only [Act.put]
            try simp only [List.setIfInBounds_toArray]
            clear hK K'
            refine wpAnyH_ready (rs := [23]) (by kernel_rfl) (by simp) ?_
            refine AllReadyH.cons rfl (fun K' hK => ?_) AllReadyH.nil
            go_simp
            refine hK.out _ _ (keep2 ((HM6.out.setOther hqR 0 _).setOther hqR 1 _)) (fun _ => ?_)
            try simp only [Act.put]
            try simp only [List.setIfInBounds_toArray]
            clear hK K'
            refine wpAnyH_ready (rs := [24]) (by kernel_rfl) (by simp) ?_
            refine AllReadyH.cons rfl (fun K' hK => ?_) AllReadyH.nil
            go_simp
            refine hK.out _ _ (keep2 ((HM6.out.setOther hqR 0 _).setOther hqR 1 _)) (fun _ => ?_)
            try simp only [Act.put]
            try simp only [List.setIfInBounds_toArray]
            clear hK K'
            refine wpAnyH_ready (rs := [25]) (by kernel_rfl) (by simp) ?_
            refine AllReadyH.cons rfl (fun K' hK => ?_) AllReadyH.nil
            go_simp
            refine hK.out _ _ (keep2 ((HM6.out.setOther hqR 0 _).setOther hqR 1 _)) (fun _ => ?_)
            try simp only [Act.put]
            try simp only [List.setIfInBounds_toArray]
            clear hK K'
            refine wpAnyH_ready (rs := [26]) (by kernel_rfl) (by simp) ?_
            refine AllReadyH.cons rfl (fun K' hK => ?_) AllReadyH.nil
            go_simp
            refine hK.out _ _ (keep2 (((HM6.out.setOther hqR 0 _).setOther hqR 1 _).setOther hqR 2 _)) (fun _ => ?_)
            try simp only [Act.put]
            try simp only [List.setIfInBounds_toArray]
            clear hK K'
            refine wpAnyH_done (by kernel_rfl) ?_ _
            have HE1 := Lib.hid (((HI6.out.setR 0 (.slice B1 n1 b1)).setR 1 (.slice B2 n2 b2)).setR 2 (.slice B3 n3 b3))
            have HE2 := Lib.hid (set3 (u0 := .slice B1 n1 b1) (u1 := .slice B2 n2 b2) (u2 := .slice B3 n3 b3) HX6.out)
            go_wp2_with fail
            go_meet
            exact ⟨_, _, _, HE1.out, HE2.out⟩
          case rest =>
           obtain ⟨x1, x2, x3, hDI, hBX⟩ := hcut
           have HD2 := Lib.hid (show DL w t (k + 1) ⟨ns ++ [t2.take b.toNat], ms ++ [m], qr⟩ (sm ++ [(s1, m)]) x1 x2 x3 wc from
            ⟨HSt.out, by simp [HKn.out], by simp [HKm.out], by simp [HKs.out], hql, short_snoc HKh.out (by rw [List.length_take]; have := b.toNat_lt; omega), by rw [ordL_succ]; exact di_more hDI, hBX⟩)
           clear hDI hBX HSt HKn HKm HKs HKh HX2 HI2 HM2 HLn HNo y0 y1 y2 y3
           go_wp2_with fail
           go_roundg (gk - 1)
           case measure => omega
           case rel => exact ⟨k + 1, _, _, x1, x2, x3, by omega, rfl, by go_num, HD2.out⟩
    ·skip
     have hkc : k = c.toNat := by omega
     have HRd := Lib.hid (show readL (c :: t) = (if h.rest = [] ∧ imgB (halfI h) = true then some (halfI h) else none) by
      unfold readL; simp only; rw [show c.toNat = k by omega, HD.out.so])
     have HIm := Lib.hid (HD.out.img (by omega))
     have hkI : ¬ (k : Int) < (c.toNat : Int) := by omega
     obtain ⟨ns, ms, rest⟩ := h
     simp only at hrest
     cases rest with
     | cons b t2 =>
       have HN := Lib.hid (HBad.out (c :: t) rfl (by rw [HRd.out]; rw [if_neg (fun hh => absurd hh.1 (by simp))]))
       go_wp2_with fail
       exact dec_ret (set3 HBx.out) rfl rfl (decEnd_null HN.out.2 HN.out.1 (below3 HOl.out _ _ _))
     | nil =>
       have HMs := Lib.hid (show ms.length = sm.length by have := HD.out.mods; simp only at this; rw [this, List.length_map])
       have HOs := Lib.hid (show (ordL ns.length).length = (ordL k).length by have := HD.out.names; simp only at this; rw [this])
       have HCk := Lib.hid (chk_at HIm.out.1 HMs.out HOs.out)
       have HBs := Lib.hid hkc
       clear hkc
       go_wp2_with fail
       refine (HCk.out).mono ?_
       rintro e w5 ⟨rfl, hb5⟩
       have HD5 := Lib.hid (HD.out.grow hb5)
       have HBx5 := Lib.hid (HBx.out.grow hb5)
       have HOl5 := Lib.hid (HOl.out.trans (hb5.mono (Nat.le_of_lt HBx.out.lt)))
       clear hb5 c0 c1 c2 k0 k1 k2 HD HBx HOl HCk
       have c0 : w5.cell? ⟨w.heap.size, 0, none⟩ = some (.slice A1 ns.length a1) := (HBx5.out.cell 0).trans rfl
       have c1 : w5.cell? ⟨w.heap.size, 1, none⟩ = some (.slice A2 sm.length a2) := (HBx5.out.cell 1).trans rfl
       have c2 : w5.cell? ⟨w.heap.size, 2, none⟩ = some (.slice A3 (ordL k).length a3) := (HBx5.out.cell 2).trans rfl
       have k0 := HBx5.out.frozen 0
       have k1 := HBx5.out.frozen 1
       have k2 := HBx5.out.frozen 2
       cases him : imgB (halfI ⟨ns, ms, []⟩) with
       | false =>
         have HN := Lib.hid (HBad.out (c :: t) rfl (by rw [HRd.out]; rw [if_neg (fun hh => by rw [him] at hh; cases hh.2)]))
         clear him
         unfold errArg
         go_wp2_with fail
         exact dec_ret (set3 HBx5.out) rfl rfl (decEnd_null HN.out.2 HN.out.1 (below3 HOl5.out _ _ _))
       | true =>
         have HN := Lib.hid (HGood.out (c :: t) (halfI ⟨ns, ms, []⟩) rfl (by rw [HRd.out]; rw [if_pos (by first | exact ⟨rfl, him⟩ | simp [him])]))
         clear him
         unfold errArg
         go_wp2_with fail
         have HDf := Lib.hid (HD5.out.set)
         exact dec_ret HDf.out.box rfl rfl (decEnd_ok HN.out.2 HN.out.1 (by rw [HBs.out]; exact Nat.le_of_lt_succ c.toNat_lt) HDf.out)
theorem decode_any (s : List UInt8) (hs : s.length ≤ 140737488355328) (w : World) : Calls Tryz.prog 15 #[.string ⟨s.toArray⟩] w (DecEnd w (decodeI s) (decodeE s)) := by
 by_cases h : s.length < 12 ∨ s.take 4 ≠ kindL
 ·exact decode_short s hs w h
 ·have h1 : ¬ s.length < 12 := fun h' => h (.inl h')
  have h2 : s.take 4 = kindL := by
   by_cases h' : s.take 4 = kindL
   ·exact h'
   ·exact absurd (.inr h') h
  by_cases h3 : (s.drop 4).take 8 = eightL (keyN (s.drop 12))
  ·exact decode_main s hs w h1 h2 h3
  ·exact decode_key s hs w h1 h2 h3
end Go.Proofs.YtabenhpjgjjgnaaGreatDoor
