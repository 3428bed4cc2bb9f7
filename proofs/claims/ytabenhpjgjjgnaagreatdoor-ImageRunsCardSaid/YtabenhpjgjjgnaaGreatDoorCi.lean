/- image. What holds while image. image. image. Condition: what lies in memory can lie there; what each theorem says. -/
import Derived.Test.YtabenhpjgjjgnaaGreatDoorCf
import Derived.Test.YtabenhpjgjjgnaaGreatDoorCe
import Derived.Test.YtabenhpjgjjgnaaGreatDoorCh
import Derived.Test.YtabenhpjgjjgnaaGreatDoorBq
import Derived.Deep.DeepCutAuto
/- image. -/
namespace Go.Proofs.YtabenhpjgjjgnaaGreatDoor
open Go.RowKit
set_option maxRecDepth 100000
structure OkI (i : ImgL) : Prop where
 few : i.names.length ≤ 64
 same : i.mods.length = i.names.length
 name : ∀ k, k < i.names.length → 1 ≤ (i.names.getD k []).length ∧ (i.names.getD k []).length ≤ 255
 mod : ∀ k, k < i.names.length → modOkB (i.mods.getD k default) = true
theorem getD_mem {α : Type} (l : List α) (k : Nat) (d : α) (hk : k < l.length) : l.getD k d ∈ l := by
 rw [List.getD_eq_getElem?_getD, List.getElem?_eq_getElem hk]; exact List.getElem_mem hk
theorem okI_of {i : ImgL} (h : imgB i = true) : OkI i := by
 unfold imgB at h
 simp only [Bool.and_eq_true, beq_iff_eq] at h
 obtain ⟨⟨⟨⟨⟨h1, h2⟩, h3⟩, h4⟩, h5⟩, h6⟩ := h
 have h0 := h1
 unfold checkB at h0
 simp only [Bool.and_eq_true, withinB_iff] at h0
 refine ⟨by omega, by omega, fun k hk => ?_, fun k hk => modOk_of_check h1 _ (getD_mem _ _ _ (by omega))⟩
 have := List.all_eq_true.1 h4 _ (getD_mem i.names k [] hk)
 unfold nameB at this
 simpa using this
theorem bodyTo_len {i : ImgL} (h : OkI i) (k : Nat) (hk : k ≤ i.names.length) : (bodyTo i k).length ≤ 1 + k * 207365 := by
 induction k with
 | zero => simp [bodyTo]
 | succ k ih =>
   have := ih (by omega)
   have h1 := h.name k (by omega)
   have h2 := packL_len (okM_of (h.mod k (by omega)))
   rw [bodyTo_succ]
   simp only [List.length_append, List.length_cons, List.length_nil]
   omega
theorem Bld.byteN {b : Nat} {l : List UInt8} (n : Nat) (hn : n < 256) {w : World} (h : Bld b l w) (hlen : l.length + 1 ≤ 140737488355328) :
 Calls Tryz.prog 104 #[.pointer (some ⟨b, 0, none⟩), .int .u8 (n : Int)] w fun e w' => e = .returned .nilIface ∧ Bld b (l ++ [UInt8.ofNat n]) w' ∧ Wrote b w w' := by
 have := Bld.byte (UInt8.ofNat n) h hlen
 rwa [show (UInt8.ofNat n).toNat = n % 256 from UInt8.toNat_ofNat, Nat.mod_eq_of_lt hn] at this
theorem Bld.byteM {b : Nat} {l : List UInt8} (n : Nat) (hn : n < 256) {w : World} (h : Bld b l w) (hlen : l.length + 1 ≤ 140737488355328) :
 Calls Tryz.prog 104 #[.pointer (some ⟨b, 0, none⟩), .int .u8 ((n : Int) % 256)] w fun e w' => e = .returned .nilIface ∧ Bld b (l ++ [UInt8.ofNat n]) w' ∧ Wrote b w w' := by
 have := Bld.byteN n hn h hlen
 rwa [show (n : Int) % 256 = (n : Int) by omega]
def imgCells (s : IS) (i : ImgL) : Array Value := #[.slice s.A1 i.names.length s.c1, .slice s.A2 i.mods.length s.c2, .slice s.A3 i.order.length s.c3]
structure EInv (w : World) (s : IS) (i : ImgL) (b : Nat) (W : World) : Prop where
 box : Box w.heap.size (imgCells s i) 55 W
 old : Below w.heap.size w W
 lt : w.heap.size < b
theorem EInv.grow {w : World} {s : IS} {i : ImgL} {b : Nat} {W W' : World} (h : EInv w s i b W) (hb : Below W.heap.size W W') : EInv w s i b W' :=
 ⟨h.box.grow hb, h.old.trans (hb.mono (Nat.le_of_lt h.box.lt)), h.lt⟩
theorem EInv.wrote {w : World} {s : IS} {i : ImgL} {b : Nat} {W W' : World} (h : EInv w s i b W) (hb : Wrote b W W') : EInv w s i b W' :=
 ⟨h.box.later hb.below h.lt, h.old.trans (hb.below.mono (Nat.le_of_lt h.lt)), h.lt⟩
theorem EInv.c0 {w : World} {s : IS} {i : ImgL} {b : Nat} {W : World} (h : EInv w s i b W) : W.cell? ⟨w.heap.size, 0, none⟩ = some (.slice s.A1 i.names.length s.c1) := (h.box.cell 0).trans rfl
theorem EInv.c1 {w : World} {s : IS} {i : ImgL} {b : Nat} {W : World} (h : EInv w s i b W) : W.cell? ⟨w.heap.size, 1, none⟩ = some (.slice s.A2 i.mods.length s.c2) := (h.box.cell 1).trans rfl
theorem EInv.c2 {w : World} {s : IS} {i : ImgL} {b : Nat} {W : World} (h : EInv w s i b W) : W.cell? ⟨w.heap.size, 2, none⟩ = some (.slice s.A3 i.order.length s.c3) := (h.box.cell 2).trans rfl
set_option maxHeartbeats 4000000 in
theorem encode_any (s : IS) (i : ImgL) (w : World) (hI : ImgIn w s i) : Calls Tryz.prog 42 #[imgV s i] w (PackEnd w (imgB i) (encodeL i)) := by
 have hn := hI.names_le
 have hm := hI.mods_le
 have ho := hI.order_le
 have HI := Lib.hid hI
 have HW := Lib.hid (alloc_below w (.cells #[.slice s.A1 i.names.length s.c1, .slice s.A2 i.mods.length s.c2, .slice s.A3 i.order.length s.c3] 55))
 clear hI
 unfold imgV
 go_enter Tryz.func42, Tryz.ntmps42
 go_wp2_with fail
 refine (imgCheck_any s i _ (HI.out.later HW.out (Nat.le_refl _))).mono ?_
 rintro e w1 ⟨rfl, hb1⟩
 have HB1 := Lib.hid (box_below hb1).1
 cases hq : imgB i
 ·have HQ := Lib.hid hq
  clear hq hb1
  rw [show errArg false = 2 from rfl]
  go_wp2_with fail
  go_ret2
  exact packEnd_of (ok' := false) (l' := []) (by unfold encodeL; rw [HQ.out]; rfl) HQ.out.symm rfl HB1.out
 have HQ := Lib.hid hq
 have HOk := Lib.hid (okI_of hq)
 have HE := Lib.hid (show encodeL i = wrapL (imgBody i) by unfold encodeL; rw [hq]; rfl)
 have hn64 := HOk.out.few
 have hsm := HOk.out.same
 have HX := Lib.hid ((Box.new w (imgCells s i) 55 (by decide)).grow hb1)
 have HLT := Lib.hid (box_below hb1).2
 clear hq hb1
 rw [show errArg true = 0 from rfl]
 have b0 : w1.cell? ⟨w.heap.size, 0, none⟩ = some (.slice s.A1 i.names.length s.c1) := (HX.out.cell 0).trans rfl
 have hlt1 : w.heap.size < w1.heap.size := HLT.out
 go_wp2_with fail
 have HP := Lib.hid (show EInv w s i w1.heap.size (w1.alloc (.cells #[.pointer none, .slice none 0 0] 147)) from ⟨HX.out.grow (alloc_below _ _), HB1.out.trans ((alloc_below _ _).mono (Nat.le_of_lt HLT.out)), HLT.out⟩)
 have HD := Lib.hid (Bld.new w1)
 clear b0 hlt1 HX HLT HB1
 generalize w1.alloc (.cells #[.pointer none, .slice none 0 0] 147) = w2 at *
 generalize w1.heap.size = b at *
 first | refine (Bld.byteN i.names.length (by omega) HD.out (by simp)).mono ?_ | refine (Bld.byteM i.names.length (by omega) HD.out (by simp)).mono ?_
 rintro e w3 ⟨rfl, hd3, hw3⟩
 have HP3 := Lib.hid (HP.out.wrote hw3)
 have HD3 := Lib.hid hd3
 have b0 := HP3.out.c0
 clear hd3 hw3 HP HD
 go_wp2_with fail
 clear b0
 go_loopg [24] (i.names.length) (fun g v wr => ∃ k : Nat, k + g = i.names.length ∧ v = .int .i64 k ∧ EInv w s i b wr ∧ Bld b (bodyTo i k) wr)
 case atStart => exact ⟨0, by omega, rfl, HP3.out, by have := HD3.out; simpa [bodyTo] using this⟩
 case round =>
  clear HP3 HD3
  obtain ⟨k, hk, rfl, hP, hD⟩ := hrel
  have HP := Lib.hid hP
  have HD := Lib.hid hD
  have hbl := bodyTo_len HOk.out k (by omega)
  by_cases hlt : k < i.names.length
  ·obtain ⟨bb, off, hA1, hb1, c0, hs0⟩ := Each.at_ (HI.out.names.later hP.old (Nat.le_refl _)) hlt
   obtain ⟨bm, om, hA2, hb2, s2, hM, d0, d1, d2, d3, d4⟩ := Each.at_ (HI.out.mods.later hP.old (Nat.le_refl _)) (j := k) (by omega)
   have HF := Lib.hid (bodyTo_succ i k)
   obtain ⟨r0, r1⟩ := HOk.out.name k hlt
   have HMo := Lib.hid (HOk.out.mod k hlt)
   have hpk := packL_len (okM_of HMo.out)
   have HM := Lib.hid hM
   have b1 := hP.c1
   have hcl := hM.code_le
   clear hP hD hM
   generalize i.names.getD k [] = x at *
   generalize i.mods.getD k default = m at *
   obtain ⟨A1, cc1, A2, cc2, A3, cc3⟩ := s
   simp only at hA1 hA2 b1 ⊢
   subst hA1 hA2
   have hkI : (k : Int) < (i.names.length : Int) := by omega
   have hkI2 : (k : Int) < (i.mods.length : Int) := by omega
   rw [Nat.mul_one] at c0
   go_wp2_with fail
   refine (pack_any s2 m _ HM.out).mono ?_
   rintro e w4 ⟨rfl, hb4⟩
   have HP4 := Lib.hid (HP.out.grow hb4)
   have HD4 := Lib.hid (HD.out.later hb4)
   have HPR := Lib.hid (show packR m = packL m by unfold packR; rw [HMo.out]; rfl)
   clear hb4 HP HD HM c0 d0 d1 d2 d3 d4 b1
   rw [HMo.out, HPR.out, show errArg true = 0 from rfl]
   go_wp2_with fail
   first | refine (Bld.byteN x.length (by omega) HD4.out (by omega)).mono ?_ | refine (Bld.byteM x.length (by omega) HD4.out (by omega)).mono ?_
   rintro e w5 ⟨rfl, hd5, hw5⟩
   have HP5 := Lib.hid (HP4.out.wrote hw5)
   have HD5 := Lib.hid hd5
   clear hd5 hw5 HP4 HD4
   have a1 := addS x (packL m) (by omega)
   go_wp2_with fail
   refine (Bld.writes (x ++ packL m) HD5.out (by simp only [List.length_append, List.length_cons, List.length_nil]; omega)).mono ?_
   rintro e w6 ⟨rfl, hd6, hw6⟩
   have HP6 := Lib.hid (HP5.out.wrote hw6)
   have HD6 := Lib.hid hd6
   clear hd6 hw6 HP5 HD5 a1
   go_wp2_with fail
   go_roundg (gk - 1)
   case measure => omega
   case rel => exact ⟨k + 1, by omega, by go_num, HP6.out, by rw [HF.out]; have := HD6.out; rw [List.append_assoc] at this; exact this⟩
  ·obtain rfl : k = i.names.length := by omega
   clear hP hD
   go_wp2_with fail
   refine HD.out.string.mono ?_
   rintro e w5 ⟨rfl, hb5⟩
   have HB5 := Lib.hid (HP.out.old.trans (hb5.mono (Nat.le_of_lt HP.out.lt)))
   have HZ := Lib.hid (Nat.le_trans HP.out.old.size hb5.size)
   have HBo := Lib.hid (show bodyTo i i.names.length = imgBody i from rfl)
   rw [HBo.out] at hbl ⊢
   clear hb5 HP HD
   go_wp2_with fail
   refine (keyOf_any (imgBody i) (by omega) _).mono ?_
   rintro e w6 ⟨rfl, rfl⟩
   go_wp2_with fail
   refine (eight_any (keyN (imgBody i)) _).mono ?_
   rintro e w7 ⟨rfl, hb7⟩
   have HB7 := Lib.hid (HB5.out.trans (hb7.mono HZ.out))
   clear hb7 HB5
   have h8 : (eightL (keyN (imgBody i))).length = 8 := beN_length _ _
   have HE2 := Lib.hid (show wrapL (imgBody i) = kindL ++ (eightL (keyN (imgBody i)) ++ imgBody i) from rfl)
   generalize eightL (keyN (imgBody i)) = e8 at *
   generalize imgBody i = body at *
   have a1 := addS [83, 69, 80, 73] e8 (by simp; omega)
   have a2 := addS ([83, 69, 80, 73] ++ e8) body (by simp; omega)
   have a3 := addS (83 :: 69 :: 80 :: 73 :: e8) body (by simp; omega)
   go_wp2_with fail
   go_ret2
   exact packEnd_of (ok' := true) (l' := kindL ++ (e8 ++ body)) (by rw [HE.out, HE2.out]) HQ.out.symm rfl HB7.out
end Go.Proofs.YtabenhpjgjjgnaaGreatDoor
/- What holds while image. -/
namespace Go.Proofs.YtabenhpjgjjgnaaGreatDoor
open Go.RowKit
set_option maxRecDepth 100000
def cellsS (s : List UInt8) : List Value := [.string ⟨s.toArray⟩]
def cellsM (p : MS × ModL) : List Value := [.string ⟨p.2.code.toArray⟩, .slice p.1.A1 p.2.procs.length p.1.c1, .slice p.1.A2 p.2.imports.length p.1.c2, .int .i64 p.2.data, .slice p.1.A3 p.2.init.length p.1.c3]
theorem etStrs : ET Tryz.prog 53 9 1 16 := et_of (z := .string ⟨#[]⟩) Tryz.underlying53 (by kernel_rfl) rfl (by omega)
theorem etMods : ET Tryz.prog 22 68 5 96 := et_of (z := .agg #[.string ⟨#[]⟩, .slice none 0 0, .slice none 0 0, .int .i64 0, .slice none 0 0]) Tryz.underlying22 (by kernel_rfl) rfl (by omega)
def Off (X : Option Nat) (A : Option Addr) (n : Nat) : Prop := n = 0 ∨ ∀ b off, A = some ⟨b, off, none⟩ → some b ≠ X
structure OffM (X : Option Nat) (s : MS) (m : ModL) : Prop where
 procs : Off X s.A1 m.procs.length
 imports : Off X s.A2 m.imports.length
 init : Off X s.A3 m.init.length
theorem Each.grown {w w' : World} {X : Option Nat} {A : Option Addr} {size n : Nat} {P Q : Nat → Nat → Nat → Prop} (h : Each w A size n P) (hg : w.grownBy w' X) (ho : Off X A n)
 (hPQ : ∀ j b o, j < n → b < w.heap.size → some b ≠ X → P j b o → Q j b o) : Each w' A size n Q := by
 rcases h with h | ⟨b, off, e, hlt, hc⟩
 ·exact .inl h
 ·rcases ho with ho | ho
  ·exact .inl ho
  ·exact .inr ⟨b, off, e, Nat.lt_of_lt_of_le hlt hg.size, fun j hj => hPQ j b _ hj hlt (ho b off e) (hc j hj)⟩
theorem ModIn.grown {w w' : World} {X : Option Nat} {s : MS} {m : ModL} (h : ModIn w s m) (hg : w.grownBy w' X) (ho : OffM X s m) : ModIn w' s m := by
 have cell : ∀ b o, b < w.heap.size → some b ≠ X → w'.cell? ⟨b, o, none⟩ = w.cell? ⟨b, o, none⟩ := fun b o hb hx => hg.cell_far ⟨b, o, none⟩ hb hx
 refine ⟨Each.grown h.procs hg ho.procs fun j b o _ hb hx hc => ?_, Each.grown h.imports hg ho.imports fun j b o _ hb hx hc => (cell b o hb hx).trans hc, Each.grown h.init hg ho.init fun j b o _ hb hx hc => ⟨(cell b o hb hx).trans hc.1, hc.2⟩, h.code_le, h.procs_le, h.imports_le, h.init_le⟩
 obtain ⟨c0, c1, c2, c3, c4, c5⟩ := hc
 exact ⟨(cell b _ hb hx).trans c0, (cell b _ hb hx).trans c1, (cell b _ hb hx).trans c2, (cell b _ hb hx).trans c3, (cell b _ hb hx).trans c4, (cell b _ hb hx).trans c5⟩
theorem off_new {w : World} {A : Option Addr} {size n : Nat} {P : Nat → Nat → Nat → Prop} (h : Each w A size n P) : Off (some w.heap.size) A n := by
 rcases h with h | ⟨b, off, e, hlt, _⟩
 ·exact .inl h
 ·refine .inr fun b' off' e' hx => ?_
  rw [e] at e'
  injection e' with e'
  injection e' with e1 _
  have := Option.some.inj hx
  omega
theorem ModIn.offNew {w : World} {s : MS} {m : ModL} (h : ModIn w s m) : OffM (some w.heap.size) s m := ⟨off_new h.procs, off_new h.imports, off_new h.init⟩
theorem off_base {w : World} {B : Nat} {e : TypeId} {size : Nat} {A : Option Addr} {n m c : Nat} {xs : List Value} (h : w.ownsRow B e size (.slice A n c) m xs) (X : Option Nat) (hX : ∀ k, X = some k → k < B) : Off X A m := by
 rcases h.2 with ⟨_, h2⟩ | ⟨g, cap, cur, h1, hB, _⟩
 ·exact .inl h2
 ·refine .inr fun b off e hx => ?_
  injection h1 with h1 _ _
  rw [h1] at e
  injection e with e
  injection e with e1 _
  have := hX b hx.symm
  omega
theorem Fresh.off {w : World} {s : MS} {m : ModL} {W : World} (h : Fresh w s m W) (X : Option Nat) (hX : ∀ k, X = some k → k < w.heap.size) : OffM X s m :=
 ⟨off_base h.rows.o1 X fun k hk => Nat.lt_succ_of_lt (hX k hk), off_base h.rows.o2 X fun k hk => Nat.lt_succ_of_lt (hX k hk), off_base h.rows.o3 X fun k hk => Nat.lt_succ_of_lt (hX k hk)⟩
def Blk (k : Nat) (cs : Array Value) (T : TypeId) (W : World) : Prop := W.heap[k]? = some (.cells cs T (0, 0))
theorem Blk.grow {k : Nat} {cs : Array Value} {T : TypeId} {W W' : World} (h : Blk k cs T W) (hb : Below W.heap.size W W') : Blk k cs T W' := (hb.block k (lt_of_get h)).trans h
theorem Blk.app {k : Nat} {cs : Array Value} {T e : TypeId} {W W' : World} {B size : Nat} {v : Value} {n : Nat} {xs : List Value} (h : Blk k cs T W) (hown : W.ownsRow B e size v n xs) (hg : W.grownBy W' v.ownBlock) (hT : T ≠ e) : Blk k cs T W' := by
 refine (hg.block k (lt_of_get h) (fun he => ?_)).trans h
 rcases hown.2 with ⟨rfl, _⟩ | ⟨g, cap, cur, rfl, _, hgg, _⟩
 ·cases he
 ·have he : k = g := Option.some.inj he
  subst he
  have := h.symm.trans hgg
  injection this with this
  injection this with _ h2 _
  exact hT h2
theorem Blk.src {P : Program} {t e : TypeId} {size bytes : Nat} (E : ET P t e size bytes) {k : Nat} {cs : Array Value} {T : TypeId} {W : World} (h : Blk k cs T W) (m c : Nat) (hl : cs.size = m * size) (h1 : ∀ u ∈ cs.toList, u.oneCell' = true) : Src P size t (.slice (some ⟨k, 0, none⟩) m c) m cs.toList W :=
 Src.ofSlice _ E.und _ m c cs.toList (by simpa using hl) (World.news_of_block h) h1
theorem own_keep {W W' : World} {B B' : Nat} {e e' : TypeId} {size size' : Nat} {v v' : Value} {n n' : Nat} {xs xs' : List Value} (h : W.ownsRow B e size v n xs) (h' : W.ownsRow B' e' size' v' n' xs') (hne : e ≠ e') (hg : W.grownBy W' v'.ownBlock) : W'.ownsRow B e size v n xs := by
 refine ⟨h.1, ?_⟩
 rcases h.2 with hn | ⟨g, cap, cur, rfl, hB, hgg, rest⟩
 ·exact .inl hn
 ·exact .inr ⟨g, cap, cur, rfl, hB, Blk.app (cs := cur) (T := e) hgg h' hg hne, rest⟩
structure DI (w : World) (v1 v2 v3 : Value) (ns : List (List UInt8)) (sm : List (MS × ModL)) (os : List Int) (al : List (MS × ModL)) (W : World) : Prop where
 old : Below w.heap.size w W
 o1 : W.ownsRow (w.heap.size + 1) 9 1 v1 ns.length (ns.flatMap cellsS)
 o2 : W.ownsRow (w.heap.size + 1) 68 5 v2 sm.length (sm.flatMap cellsM)
 o3 : W.ownsRow (w.heap.size + 1) 3 1 v3 os.length (os.flatMap cellsI)
 mods : ∀ p ∈ al, ModIn W p.1 p.2 ∧ OffM v1.ownBlock p.1 p.2 ∧ OffM v2.ownBlock p.1 p.2 ∧ OffM v3.ownBlock p.1 p.2 ∧ OffM (some w.heap.size) p.1 p.2
 lt : w.heap.size < W.heap.size
section
variable {w : World} {v1 v2 v3 : Value} {ns : List (List UInt8)} {sm : List (MS × ModL)} {os : List Int} {al : List (MS × ModL)} {W W' : World}
theorem DI.grow (h : DI w v1 v2 v3 ns sm os al W) (hb : Below W.heap.size W W') : DI w v1 v2 v3 ns sm os al W' :=
 ⟨h.old.trans (hb.mono (Nat.le_of_lt h.lt)), own_later h.o1 hb, own_later h.o2 hb, own_later h.o3 hb, fun p hp => ⟨(h.mods p hp).1.later hb (Nat.le_refl _), (h.mods p hp).2⟩, Nat.lt_of_lt_of_le h.lt hb.size⟩
theorem offM_place {X Y : Option Nat} {p : MS × ModL} (h : ModIn W p.1 p.2) (ho : OffM X p.1 p.2) (hp : Y = X ∨ Y = some W.heap.size) : OffM Y p.1 p.2 := by
 rcases hp with rfl | rfl
 ·exact ho
 ·exact h.offNew
theorem DI.app1 {v : Value} {x : List UInt8} (h : DI w v1 v2 v3 ns sm os al W) (hA : App W W' (w.heap.size + 1) 9 1 v1 v (ns.length + 1) (ns.flatMap cellsS ++ cellsS x)) : DI w v v2 v3 (ns ++ [x]) sm os al W' :=
 ⟨hA.below h.old (Nat.le_of_lt h.lt) h.o1 (Nat.le_succ _), by rw [List.flatMap_append, List.length_append]; simpa using hA.own, own_keep h.o2 h.o1 (by decide) hA.grown, own_keep h.o3 h.o1 (by decide) hA.grown,
  fun p hp => ⟨(h.mods p hp).1.grown hA.grown (h.mods p hp).2.1, offM_place (h.mods p hp).1 (h.mods p hp).2.1 hA.place, (h.mods p hp).2.2⟩, Nat.lt_of_lt_of_le h.lt hA.grown.size⟩
theorem DI.app2 {v : Value} {x : MS × ModL} (h : DI w v1 v2 v3 ns sm os al W) (hA : App W W' (w.heap.size + 1) 68 5 v2 v (sm.length + 1) (sm.flatMap cellsM ++ cellsM x)) : DI w v1 v v3 ns (sm ++ [x]) os al W' :=
 ⟨hA.below h.old (Nat.le_of_lt h.lt) h.o2 (Nat.le_succ _), own_keep h.o1 h.o2 (by decide) hA.grown, by rw [List.flatMap_append, List.length_append]; simpa using hA.own, own_keep h.o3 h.o2 (by decide) hA.grown,
  fun p hp => ⟨(h.mods p hp).1.grown hA.grown (h.mods p hp).2.2.1, (h.mods p hp).2.1, offM_place (h.mods p hp).1 (h.mods p hp).2.2.1 hA.place, (h.mods p hp).2.2.2⟩, Nat.lt_of_lt_of_le h.lt hA.grown.size⟩
theorem DI.app3 {v : Value} {x : Int} (h : DI w v1 v2 v3 ns sm os al W) (hA : App W W' (w.heap.size + 1) 3 1 v3 v (os.length + 1) (os.flatMap cellsI ++ cellsI x)) : DI w v1 v2 v ns sm (os ++ [x]) al W' :=
 ⟨hA.below h.old (Nat.le_of_lt h.lt) h.o3 (Nat.le_succ _), own_keep h.o1 h.o3 (by decide) hA.grown, own_keep h.o2 h.o3 (by decide) hA.grown, by rw [List.flatMap_append, List.length_append]; simpa using hA.own,
  fun p hp => ⟨(h.mods p hp).1.grown hA.grown (h.mods p hp).2.2.2.1, (h.mods p hp).2.1, (h.mods p hp).2.2.1, offM_place (h.mods p hp).1 (h.mods p hp).2.2.2.1 hA.place, (h.mods p hp).2.2.2.2⟩, Nat.lt_of_lt_of_le h.lt hA.grown.size⟩
theorem DI.setR (h : DI w v1 v2 v3 ns sm os al W) (i : Nat) (u : Value) : DI w v1 v2 v3 ns sm os al (W.setCell ⟨w.heap.size, i, none⟩ u) :=
 ⟨h.old.setCell (p := ⟨w.heap.size, i, none⟩) (Nat.le_refl _) u, own_set h.o1 (Nat.lt_succ_self _) i u, own_set h.o2 (Nat.lt_succ_self _) i u, own_set h.o3 (Nat.lt_succ_self _) i u,
  fun p hp => ⟨(h.mods p hp).1.grown (grown_set (grown_refl W (some w.heap.size)) i u) (h.mods p hp).2.2.2.2, (h.mods p hp).2⟩, by simpa using h.lt⟩
theorem DI.more {p : MS × ModL} (h : DI w v1 v2 v3 ns sm os al W) (hp : ModIn W p.1 p.2 ∧ OffM v1.ownBlock p.1 p.2 ∧ OffM v2.ownBlock p.1 p.2 ∧ OffM v3.ownBlock p.1 p.2 ∧ OffM (some w.heap.size) p.1 p.2) : DI w v1 v2 v3 ns sm os (p :: al) W :=
 ⟨h.old, h.o1, h.o2, h.o3, fun q hq => (List.mem_cons.1 hq).elim (fun e => e ▸ hp) (h.mods q), h.lt⟩
end
end Go.Proofs.YtabenhpjgjjgnaaGreatDoor
/- image. -/
namespace Go.Proofs.YtabenhpjgjjgnaaGreatDoor
open Go.RowKit
set_option maxRecDepth 100000
def nullS : IS := ⟨none, 0, none, 0, none, 0⟩
def DecEnd (w : World) (i : ImgL) (er : Int) (e : Ending) (w' : World) : Prop := ∃ t, e = .returned (.tuple #[imgV t i, .int .i64 er]) ∧ ImgIn w' t i ∧ Below w.heap.size w w'
theorem nullIn (w : World) : ImgIn w nullS nullI := ⟨.inl rfl, .inl rfl, .inl rfl, Nat.zero_le _, Nat.zero_le _, Nat.zero_le _⟩
theorem decEnd_null {w w' : World} {i : ImgL} {er er' : Int} (hi : i = nullI) (he : er = er') (hb : Below w.heap.size w w') : DecEnd w i er (.returned (.tuple #[.agg #[.slice none 0 0, .slice none 0 0, .slice none 0 0], .int .i64 er'])) w' := by
 subst hi he; exact ⟨nullS, rfl, nullIn _, hb⟩
theorem decodeI_null {s : List UInt8} (h : decodeE s ≠ 0) : decodeI s = nullI := by unfold decodeI; rw [if_neg h]
theorem R0 (w : World) : Box w.heap.size #[.slice none 0 0, .slice none 0 0, .slice none 0 0] 55 (w.alloc (.cells #[.slice none 0 0, .slice none 0 0, .slice none 0 0] 55)) := Box.new _ _ _ (by decide)
set_option maxHeartbeats 1000000 in
theorem decode_short (s : List UInt8) (hs : s.length ≤ 140737488355328) (w : World) (h : s.length < 12 ∨ s.take 4 ≠ kindL) : Calls Tryz.prog 15 #[.string ⟨s.toArray⟩] w (DecEnd w (decodeI s) (decodeE s)) := by
 have HE := Lib.hid (show decodeE s = 7 by unfold decodeE; rw [if_pos h])
 have HI := Lib.hid (show decodeI s = nullI from decodeI_null (by rw [HE.out]; decide))
 have HA := Lib.hid (alloc_below w (.cells #[.slice none 0 0, .slice none 0 0, .slice none 0 0] 55))
 by_cases h1 : s.length < 12
 ·go_enter Tryz.func15, Tryz.ntmps15
  go_wp2_with fail
  refine bodyPost_ret (v := .tuple #[.agg #[.slice none 0 0, .slice none 0 0, .slice none 0 0], .int .i64 7]) (by simp [results, Tryz.results15, go_sem]) rfl ?_
  exact decEnd_null HI.out HE.out HA.out
 ·have h2 : s.take 4 ≠ kindL := h.resolve_left h1
  have x1 := ext_take s 4
  have d1 : (s.take 4 == [83, 69, 80, 73]) = false := by simpa [kindL] using h2
  have d2 : decide (s.take 4 = [83, 69, 80, 73]) = false := by simpa [kindL] using h2
  have hI : (4 : Int) ≤ (s.length : Int) := by omega
  clear h2
  go_enter Tryz.func15, Tryz.ntmps15
  go_wp2_with fail
  refine bodyPost_ret (v := .tuple #[.agg #[.slice none 0 0, .slice none 0 0, .slice none 0 0], .int .i64 7]) (by simp [results, Tryz.results15, go_sem]) rfl ?_
  exact decEnd_null HI.out HE.out HA.out
theorem dec_ret {w W : World} {R : Ending → World → Prop} {u0 u1 u2 : Value} {er : Int} {c : Array Value} (hX : Box w.heap.size #[u0, u1, u2] 55 W) (h2 : c.getD 2 undef = .pointer (some ⟨w.heap.size, 0, none⟩)) (h3 : c.getD 3 undef = .int .i64 er)
 (hR : R (.returned (.tuple #[.agg #[u0, u1, u2], .int .i64 er])) W) : bodyPost Tryz.prog Tryz.f15 R .ret { tmps := c, defers := [] } W := by
 have c0 : W.cell? ⟨w.heap.size, 0, none⟩ = some u0 := (hX.cell 0).trans rfl
 have c1 : W.cell? ⟨w.heap.size, 1, none⟩ = some u1 := (hX.cell 1).trans rfl
 have c2 : W.cell? ⟨w.heap.size, 2, none⟩ = some u2 := (hX.cell 2).trans rfl
 refine bodyPost_ret (v := .tuple #[.agg #[u0, u1, u2], .int .i64 er]) ?_ rfl hR
 have h2' : c[2]?.getD undef = .pointer (some ⟨w.heap.size, 0, none⟩) := by simpa using h2
 have h3' : c[3]?.getD undef = .int .i64 er := by simpa using h3
 simp only [results, Tryz.results15]
 simp [go_sem, h2', h3', c0, c1, c2]
theorem set3 {k : Nat} {a b c u0 u1 u2 : Value} {T : TypeId} {W : World} (h : Box k #[a, b, c] T W) : Box k #[u0, u1, u2] T (World.setCell (World.setCell (World.setCell W ⟨k, 0, none⟩ u0) ⟨k, 1, none⟩ u1) ⟨k, 2, none⟩ u2) :=
 ((((h.set 0 u0).to (ds := #[u0, b, c]) (by simp)).set 1 u1).to (ds := #[u0, u1, c]) (by simp)).set 2 u2 |>.to (by simp)
theorem below3 {k : Nat} {w W : World} (h : Below k w W) (u0 u1 u2 : Value) : Below k w (World.setCell (World.setCell (World.setCell W ⟨k, 0, none⟩ u0) ⟨k, 1, none⟩ u1) ⟨k, 2, none⟩ u2) :=
 ((h.setCell (p := ⟨k, 0, none⟩) (Nat.le_refl _) _).setCell (p := ⟨k, 1, none⟩) (Nat.le_refl _) _).setCell (p := ⟨k, 2, none⟩) (Nat.le_refl _) _
theorem quiet_same' {P : Program} {f : FuncId} {args : Array Value} {w : World} {x : Gr} {v : Value}
 (h : Calls P f args (growN w x) fun e w' => e = .returned v ∧ growN w x = w') : Calls P f args (growN w x) fun e w'' => e = .returned v ∧ ∃ y, w'' = growN w y :=
 h.mono fun _ _ ⟨he, hw⟩ => ⟨he, x, hw.symm⟩
theorem ext_mid (s : List UInt8) : ByteArray.extract ⟨s.toArray⟩ 4 12 = ⟨((s.drop 4).take 8).toArray⟩ := by
 rw [ext_at, List.drop_take]
set_option maxHeartbeats 2000000 in
theorem decode_key (s : List UInt8) (hs : s.length ≤ 140737488355328) (w : World) (h1 : ¬ s.length < 12) (h2 : s.take 4 = kindL) (h3 : (s.drop 4).take 8 ≠ eightL (keyN (s.drop 12))) : Calls Tryz.prog 15 #[.string ⟨s.toArray⟩] w (DecEnd w (decodeI s) (decodeE s)) := by
 have HE := Lib.hid (show decodeE s = 210 by unfold decodeE; rw [if_neg (by rintro (h | h); exact h1 h; exact h h2), if_pos h3])
 have HI := Lib.hid (show decodeI s = nullI from decodeI_null (by rw [HE.out]; decide))
 have HA := Lib.hid (alloc_below w (.cells #[.slice none 0 0, .slice none 0 0, .slice none 0 0] 55))
 have HX := Lib.hid (R0 w)
 have x1 := ext_take s 4
 have x2 := ext_mid s
 have x3 := ext_drop s 12
 have d1 : (s.take 4 == [83, 69, 80, 73]) = true := by simpa [kindL] using h2
 have d2 : decide (s.take 4 = [83, 69, 80, 73]) = true := by simpa [kindL] using h2
 have d3 : s.take 4 = [83, 69, 80, 73] := h2
 have hI : (4 : Int) ≤ (s.length : Int) := by omega
 have hI2 : (12 : Int) ≤ (s.length : Int) := by omega
 have hl12 : (s.drop 12).length ≤ 140737488355328 := by rw [List.length_drop]; omega
 have f1 : (List.take 8 (List.drop 4 s) == eightL (keyN (List.drop 12 s))) = false := by simpa using h3
 have f2 : decide (List.take 8 (List.drop 4 s) = eightL (keyN (List.drop 12 s))) = false := by simpa using h3
 clear h2
 go_enter Tryz.func15, Tryz.ntmps15
 go_wp2_with fail
 generalize w.alloc (.cells #[.slice none 0 0, .slice none 0 0, .slice none 0 0] 55) = w0 at *
 refine wp_region_grow (by kernel_rfl) (by kernel_rfl) ?_
 repeat (first | go_big_quiet_step (first | (refine quiet_same' (keyOf_any (s.drop 12) hl12 _)) | (refine quiet_grow (eight_any (keyN (s.drop 12)) _))))
 refine wpQuiet_nil ?_
 rintro _ ⟨gx, rfl⟩
 have HXg := Lib.hid (HX.out.grow (growN_below w0 gx))
 have HBg := Lib.hid (HA.out.trans ((growN_below w0 gx).mono HA.out.size))
 generalize growN w0 gx = wg at *
 have c0 : wg.cell? ⟨w.heap.size, 0, none⟩ = some (.slice none 0 0) := (HXg.out.cell 0).trans rfl
 have c1 : wg.cell? ⟨w.heap.size, 1, none⟩ = some (.slice none 0 0) := (HXg.out.cell 1).trans rfl
 have c2 : wg.cell? ⟨w.heap.size, 2, none⟩ = some (.slice none 0 0) := (HXg.out.cell 2).trans rfl
 have k0 := HXg.out.frozen 0
 have k1 := HXg.out.frozen 1
 have k2 := HXg.out.frozen 2
 go_wp2_with fail
 exact dec_ret (set3 HXg.out) rfl rfl (decEnd_null HI.out HE.out (below3 HBg.out _ _ _))
end Go.Proofs.YtabenhpjgjjgnaaGreatDoor
/- image. -/
namespace Go.Proofs.YtabenhpjgjjgnaaGreatDoor
open Go.RowKit
set_option maxRecDepth 100000
theorem unpack_len {s q : List UInt8} {m : ModL} (h : unpackL s = some (m, q)) : q.length ≤ s.length := by
 unfold unpackL at h
 split at h
 ·cases h
 ·injection h with h
  injection h with _ h
  rw [← h]
  have z1 : (rawS ⟨s, false⟩ 2).s.length ≤ s.length := rawS_len _ 2
  have z2 : (r2 ⟨s, false⟩).s.length ≤ s.length := Nat.le_trans (rawS_len _ _) z1
  have z3 : (ps ⟨s, false⟩).2.s.length ≤ s.length := Nat.le_trans (listTo_s procR procR_len _ _) (Nat.le_trans (rawS_len _ _) z2)
  have z4 : (is ⟨s, false⟩).2.s.length ≤ s.length := Nat.le_trans (listTo_s impR (fun q => rawS_len q 1) _ _) (Nat.le_trans (rawS_len _ _) z3)
  have z5 : (r7 ⟨s, false⟩).s.length ≤ s.length := Nat.le_trans (rawS_len _ _) z4
  exact Nat.le_trans (listTo_s wordR (fun q => rawS_len q 2) _ _) (Nat.le_trans (rawS_len _ _) z5)
theorem ext_tail (c : UInt8) (t : List UInt8) : ByteArray.extract ⟨(c :: t).toArray⟩ 1 (t.length + 1) = ⟨t.toArray⟩ := by
 rw [ext_at]; simp
theorem ext_cut (c : UInt8) (t : List UInt8) (n : Nat) : ByteArray.extract ⟨(c :: t).toArray⟩ (1 + n) (t.length + 1) = ⟨(t.drop n).toArray⟩ := by
 rw [ext_at, Nat.add_comm 1 n]; simp
theorem ext_name (c : UInt8) (t : List UInt8) (n : Nat) : ByteArray.extract ⟨(c :: t).toArray⟩ 1 (1 + n) = ⟨(t.take n).toArray⟩ := by
 rw [ext_at, Nat.add_comm 1 n]; simp
structure DL (w : World) (t : List UInt8) (k : Nat) (h : Half) (sm : List (MS × ModL)) (v1 v2 v3 : Value) (W : World) : Prop where
 so : imgTo k t = some h
 names : h.names.length = k
 mods : h.mods = sm.map (·.2)
 n : sm.length = k
 rest : h.rest.length ≤ 140737488355328
 short : ∀ x ∈ h.names, x.length ≤ 255
 di : DI w v1 v2 v3 h.names sm (ordL k) sm W
 box : Box w.heap.size #[v1, v2, v3] 55 W
theorem ordL_length (k : Nat) : (ordL k).length = k := by simp [ordL]
theorem ordL_succ (k : Nat) : ordL (k + 1) = ordL k ++ [(k : Int)] := by simp [ordL, List.range_succ]
theorem own_strs {w : World} {B : Nat} {A : Option Addr} {n cap : Nat} {l : List (List UInt8)} (hl : ∀ x ∈ l, x.length ≤ 255) (h : w.ownsRow B 9 1 (.slice A n cap) l.length (l.flatMap cellsS)) : Strs w A l :=
 own_each (f := cellsS) (c := 1) (P := fun j b o => w.cell? ⟨b, o, none⟩ = some (.string ⟨(l.getD j []).toArray⟩) ∧ (l.getD j []).length ≤ 140737488355328) (fun _ => rfl) h [] fun _ j _ hu => ⟨hu 0 _ rfl, by
  by_cases hj : j < l.length
  ·have := hl _ (getD_mem l j [] hj); omega
  ·rw [List.getD_eq_getElem?_getD, List.getElem?_eq_none (by omega)]; simp⟩
theorem own_mods {w : World} {B : Nat} {A : Option Addr} {n cap : Nat} {sm : List (MS × ModL)} (hl : ∀ p ∈ sm, ModIn w p.1 p.2) (h : w.ownsRow B 68 5 (.slice A n cap) sm.length (sm.flatMap cellsM)) : Mods w A (sm.map (·.2)) := by
 have := own_each (f := cellsM) (c := 5) (P := fun j b o => j < sm.length → ModAt w b o (sm.getD j default).2) (fun _ => rfl) h default fun _ j _ hu hj => ⟨(sm.getD j default).1, hl _ (getD_mem sm j default hj), hu 0 _ rfl, hu 1 _ rfl, hu 2 _ rfl, hu 3 _ rfl, hu 4 _ rfl⟩
 unfold Mods
 rw [List.length_map]
 rcases this with h0 | ⟨b, off, e, hlt, hc⟩
 ·exact .inl h0
 ·refine .inr ⟨b, off, e, hlt, fun j hj => ?_⟩
  have := hc j hj hj
  show ModAt w b (off + j * 5) ((sm.map (·.2)).getD j default)
  rwa [show (sm.map (·.2)).getD j default = (sm.getD j default).2 by simp [List.getD_eq_getElem?_getD, hj]]
theorem DL.img {w : World} {t : List UInt8} {k : Nat} {h : Half} {sm : List (MS × ModL)} {A1 A2 A3 : Option Addr} {n1 n2 n3 c1 c2 c3 : Nat} {W : World} (hk : k ≤ 255) (d : DL w t k h sm (.slice A1 n1 c1) (.slice A2 n2 c2) (.slice A3 n3 c3) W) : ImgIn W ⟨A1, c1, A2, c2, A3, c3⟩ (halfI h) ∧ n1 = h.names.length ∧ n2 = h.mods.length ∧ n3 = (ordL h.names.length).length := by
 have e1 := own_n d.di.o1
 have e2 := own_n d.di.o2
 have e3 := own_n d.di.o3
 have hn := d.names
 have hs := d.n
 have hm : h.mods.length = k := by rw [d.mods, List.length_map]; exact hs
 refine ⟨⟨own_strs d.short d.di.o1, ?_, ?_, ?_, ?_, ?_⟩, e1, by omega, by rw [hn]; exact e3⟩
 ·show Mods W A2 h.mods
  rw [d.mods]
  exact own_mods (fun p hp => (d.di.mods p hp).1) d.di.o2
 ·show Ints W A3 (ordL h.names.length)
  rw [hn]
  exact own_ints d.di.o3
 ·show h.names.length ≤ _; omega
 ·show h.mods.length ≤ _; omega
 ·show (ordL h.names.length).length ≤ _; rw [ordL_length]; omega
end Go.Proofs.YtabenhpjgjjgnaaGreatDoor
