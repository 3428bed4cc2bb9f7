/- A new machine, for a program of one module without words to begin with. Condition: what lies in memory can lie there; there is room. -/
import Derived.Test.YtpfcojnkflcnoaaGreatDoorBn
import Derived.Test.YtpfcojnkflcnoaaGreatDoorBh
import Derived.Test.YtpfcojnkflcnoaaGreatDoorBo
import Derived.Deep.RegionHeld3
import Derived.Outline
namespace Go.Proofs.YtpfcojnkflcnoaaGreatDoor
open Go.RowKit
set_option maxRecDepth 100000

/-- How a machine begins. -/
def zeroS (inp : List UInt8) : St := ⟨0, 0, 0, 0, 0, 0, 0, 0, 0, 0, 0, [], fun _ => 0, inp, []⟩
def trapS (r : St × Nat) : St := if r.2 ≠ 0 then { r.1 with kind := 2, trap := r.2 } else r.1
def startS (K : MK) (inp : List UInt8) : St := { trapS (beginsM K (zeroS inp)) with at_ := (trapS (beginsM K (zeroS inp))).next }
structure NewK (K : MK) (m : ModL) (o : List Int) (st hp out : Nat) : Prop where
  mods : K.mods = [m]
  order : K.order = o
  low : K.low = 1 + m.data
  high : K.high = 1 + m.data + st
  n : (K.n : Int) = m.data + st + hp
  most : K.most = out
def NewEnd (m : ModL) (o : List Int) (st hp out : Nat) (inp : List UInt8) (W : World) (e : Ending) (w' : World) : Prop :=
  ∃ K : MK, e = .returned (.tuple #[.pointer (some ⟨K.b, 0, none⟩), .int .i64 0]) ∧ KOk K ∧ NewK K m o st hp out ∧ At K (startS K inp) w' ∧ (∀ b ∈ K.bs, W.heap.size ≤ b) ∧ Below W.heap.size W w'
-- Q0
theorem mask_more {b : Nat} {bs : List Nat} {wr w' : World} (ho : Only [b] wr w') (hb : b ∈ bs) (hbs : ∀ x ∈ bs, x = b ∨ wr.heap.size ≤ x) : Below wr.heap.size (mask [b] wr) (mask bs w') := by
  have hz : wr.heap.size ≤ w'.heap.size := ho.size
  refine ⟨ho.os, ho.tape, ho.output, by rw [mask_size, mask_size]; exact hz, fun k hk => ?_⟩
  by_cases hkb : k = b
  · subst hkb
    rw [mask_in _ _ (by simp) hk, mask_in _ _ hb (by omega)]
  · rw [mask_at [b] _ (by simpa using hkb), mask_at bs _ (fun hm => by have := hbs k hm; omega)]
    exact ho.block hk (by simpa using hkb)
theorem memNew_eq {x : Int} {n : Nat} (hx : x = n) (hn : n ≤ 65535) (w : World) : Calls Tryz.prog 28 #[.int .i64 x] w (MemEnd n w) := by subst hx; exact memNew_any n hn w
theorem begins_keep {K : MK} (S : St) : (beginsM K S).1.steps = S.steps ∧ (beginsM K S).1.trap = S.trap ∧ (beginsM K S).1.inp = S.inp := by
  unfold beginsM
  split
  · exact ⟨rfl, rfl, rfl⟩
  · split <;> exact ⟨rfl, rfl, rfl⟩
-- Q0END
/-- The cells of a machine that is being made. -/
def mcell (tm : Value) (A4 : Option Addr) (c4 : Nat) (A5 : Option Addr) (ol c5 : Nat) (me he d f : Value) (lo hi : Int) : Array Value := #[tm, .slice A4 1 c4, .slice A5 ol c5, me, he, d, f, .int .i64 lo, .int .i64 hi, .int .i64 0, .int .i64 0, .int .i64 0, .int .i64 0, .int .i64 0, .int .i64 0, .int .i64 0, .slice none 0 0, .int .i64 0, .int .u8 0, .int .u8 0, .int .i64 0]
/-- What is so while it looks at the modules. -/
theorem src_one8 {w : World} {g : Nat} (x : Int) (h : w.cell? ⟨g, 0, none⟩ = some (.int .i64 x)) : Src Tryz.prog 1 29 (.slice (some ⟨g, 0, none⟩) 1 1) 1 [.int .i64 x] w :=
  Src.ofSlice _ Tryz.underlying29 ⟨g, 0, none⟩ 1 1 [.int .i64 x] rfl (fun j u hj => by
    match j, hj with
    | 0, hj => cases hj; exact h
    | j + 1, hj => simp at hj) (fun u hu => by simp at hu; subst hu; rfl)
def L1 (m : ModL) (o : List Int) (_W w3 : World) (b : Nat) (A4 : Option Addr) (c4 : Nat) (A5 : Option Addr) (c5 : Nat) (g : Nat) (x y z : Value) (wr : World) : Prop :=
  Below b w3 wr ∧ ((g = 1 ∧ x = .int .i64 1 ∧ y = .int .i64 1 ∧ z = .int .i64 0 ∧ Bx b (mcell (.pointer none) A4 c4 A5 o.length c5 (.pointer none) (.pointer none) (.slice none 0 0) (.slice none 0 0) 0 0) 79 wr) ∨
    (g = 0 ∧ x = .int .i64 (1 + m.data) ∧ y = .int .i64 (1 + m.procs.length) ∧ z = .int .i64 1 ∧ ∃ (A6 A7 : Option Addr) (c6 c7 : Nat), Bx b (mcell (.pointer none) A4 c4 A5 o.length c5 (.pointer none) (.pointer none) (.slice A6 1 c6) (.slice A7 1 c7) 0 0) 79 wr ∧ Ints (mask [b] wr) A6 [1] ∧ Ints (mask [b] wr) A7 [1]))
theorem held8 {b : Nat} {A4 A5 : Option Addr} {c4 c5 ol : Nat} {W : World} (h : Bx b (mcell (.pointer none) A4 c4 A5 ol c5 (.pointer none) (.pointer none) (.slice none 0 0) (.slice none 0 0) 0 0) 79 W) :
    Bx b (mcell (.pointer none) A4 c4 A5 ol c5 (.pointer none) (.pointer none) (.slice none 0 0) (.slice none 0 0) 0 0) 79 W ∧ W.cell? ⟨b, 5, none⟩ = some (.slice none 0 0) ∧ W.cell? ⟨b, 6, none⟩ = some (.slice none 0 0) := ⟨h, (h.cell 5).trans rfl, (h.cell 6).trans rfl⟩
set_option maxHeartbeats 4000000 in
theorem new_one (A2 A3 : Option Addr) (c2 c3 : Nat) (m : ModL) (o : List Int) (hck : checkB [m] o = true) (hin : m.init = []) (hol : o.length ≤ 1000) (hd0 : 0 ≤ m.data) (st hp out : Nat) (hout : out ≤ 16384) (hfit : m.data + st + hp ≤ 65535) (hpl : m.procs.length ≤ 1024) (hil0 : m.imports.length ≤ 255) (inp : List UInt8) (hil : inp.length ≤ 16384) (W : World) (hM : Mods W A2 [m]) (hO : Ints W A3 o) :
    Calls Tryz.prog 12 #[.agg #[.slice A2 1 c2, .slice A3 o.length c3], .agg #[.int .i64 st, .int .i64 hp, .int .i64 out], .string ⟨inp.toArray⟩] W (NewEnd m o st hp out inp W) := by
  have HB0 := Lib.hid (show Below W.heap.size W ((W.alloc (.cells #[.slice A2 1 c2, .slice A3 o.length c3] 31)).alloc (.cells #[.int .i64 st, .int .i64 hp, .int .i64 out] 44)) from ((Below.refl _ _).alloc (Nat.le_refl _) _).alloc (by simp) _)
  have HX0 := Lib.hid (Bx.grow (Bx.new W #[.slice A2 1 c2, .slice A3 o.length c3] 31) (alloc_below _ (.cells #[.int .i64 st, .int .i64 hp, .int .i64 out] 44)))
  have HY0 := Lib.hid (show Bx (W.heap.size + 1) #[.int .i64 st, .int .i64 hp, .int .i64 out] 44 ((W.alloc (.cells #[.slice A2 1 c2, .slice A3 o.length c3] 31)).alloc (.cells #[.int .i64 st, .int .i64 hp, .int .i64 out] 44)) by simpa using Bx.new (W.alloc (.cells #[.slice A2 1 c2, .slice A3 o.length c3] 31)) #[.int .i64 st, .int .i64 hp, .int .i64 out] 44)
  have HM := Lib.hid hM
  have HO := Lib.hid hO
  have HCK := Lib.hid hck
  have HIN := Lib.hid hin
  obtain ⟨b0, of, rfl, hb, s, hI, d0, d1, d2, d3, d4⟩ := hM.at_ (j := 0) (by simp)
  simp only [Nat.zero_mul, Nat.add_zero, List.getD_cons_zero] at d0 d1 d2 d3 d4
  have D0 := Lib.hid d0
  have D1 := Lib.hid d1
  have D2 := Lib.hid d2
  have D3 := Lib.hid d3
  have D4 := Lib.hid d4
  clear hM hO hck hin hI d0 d1 d2 d3 d4
  go_enter Tryz.func12, Tryz.ntmps12
  go_wp2_with fail
  generalize World.alloc _ _ = w0 at *
  refine (check_any _ A3 c2 c3 [m] o (by simp) (by omega) _ (HM.out.later HB0.out (Nat.le_refl _)) (HO.out.later HB0.out (Nat.le_refl _))).mono ?_
  rintro e w1 ⟨k1, rfl, hb1⟩
  rw [show errMod (checkB [m] o) = 0 by rw [HCK.out]; rfl]
  have HB1 := Lib.hid (HB0.out.trans (hb1.mono HB0.out.size))
  have HX1 := Lib.hid (HX0.out.grow hb1)
  have HY1 := Lib.hid (HY0.out.grow hb1)
  clear hb1 HB0 HX0 HY0
  have x0 : w1.cell? ⟨W.heap.size, 0, none⟩ = some (.slice (some ⟨b0, of, none⟩) 1 c2) := (HX1.out.cell 0).trans rfl
  have x1 : w1.cell? ⟨W.heap.size, 1, none⟩ = some (.slice A3 o.length c3) := (HX1.out.cell 1).trans rfl
  go_wp2_with fail
  refine (own_one _ A3 c2 c3 m o hol hpl hil0 _ (HM.out.later HB1.out (Nat.le_refl _)) (HO.out.later HB1.out (Nat.le_refl _))).mono ?_
  rintro e w2 ⟨A4, c4, A5, c5, rfl, hM2, hO2, hb2⟩
  have HB2 := Lib.hid (HB1.out.trans (hb2.mono HB1.out.size))
  have HX2 := Lib.hid (HX1.out.grow hb2)
  have HY2 := Lib.hid (HY1.out.grow hb2)
  have HM2 := Lib.hid hM2
  have HO2 := Lib.hid hO2
  clear hb2 hM2 hO2 x0 x1 HB1 HX1 HY1 HM HO
  have x0 : w2.cell? ⟨W.heap.size, 0, none⟩ = some (.slice (some ⟨b0, of, none⟩) 1 c2) := (HX2.out.cell 0).trans rfl
  have xl := HX2.out.lt
  go_wp2_with fail
  have HQ3 := Lib.hid (Bx.new w2 (mcell (.pointer none) A4 c4 A5 o.length c5 (.pointer none) (.pointer none) (.slice none 0 0) (.slice none 0 0) 0 0) 79)
  have HA3 := Lib.hid (alloc_below w2 (.cells (mcell (.pointer none) A4 c4 A5 o.length c5 (.pointer none) (.pointer none) (.slice none 0 0) (.slice none 0 0) 0 0) 79))
  have HL3 := Lib.hid (show (w2.alloc (.cells (mcell (.pointer none) A4 c4 A5 o.length c5 (.pointer none) (.pointer none) (.slice none 0 0) (.slice none 0 0) 0 0) 79)).heap.size = w2.heap.size + 1 by simp)
  have HB3 := Lib.hid (HB2.out.trans (HA3.out.mono HB2.out.size))
  have HX3 := Lib.hid (HX2.out.grow HA3.out)
  have HY3 := Lib.hid (HY2.out.grow HA3.out)
  have HM3 := Lib.hid (HM2.out.later HA3.out (Nat.le_refl _))
  have HO3 := Lib.hid (HO2.out.later HA3.out (Nat.le_refl _))
  have hYb : W.heap.size + 1 < w2.heap.size := HY2.out.lt
  have hb2 : b0 < w2.heap.size := by omega
  have HB23 := Lib.hid HA3.out
  clear HA3 HX2 HY2 x0 HB2
  change Code.wp _ _ _ _ (w2.alloc (.cells (mcell (.pointer none) A4 c4 A5 o.length c5 (.pointer none) (.pointer none) (.slice none 0 0) (.slice none 0 0) 0 0) 79))
  generalize w2.alloc _ = w3 at *
  generalize hS2 : w2.heap.size = b at *
  replace hS2 := Lib.hid hS2
  go_loopg [11, 12, 36] (1) (L1 m o W w3 b A4 c4 A5 c5)
  case atStart => exact ⟨Below.refl _ _, .inl ⟨rfl, rfl, rfl, rfl, HQ3.out⟩⟩
  case round =>
    obtain ⟨hbr, ⟨rfl, rfl, rfl, rfl, hq⟩ | ⟨rfl, rfl, rfl, rfl, A6, A7, c6, c7, hq, h6, h7⟩⟩ := hrel
    · have HBr := Lib.hid (HB3.out.trans (hbr.mono (by omega)))
      have HB3r := Lib.hid hbr
      have d0 := (HBr.out.cell (p := ⟨b0, of, none⟩) hb).trans D0.out
      have d1 := (HBr.out.cell (p := ⟨b0, of + 1, none⟩) hb).trans D1.out
      have d2 := (HBr.out.cell (p := ⟨b0, of + 2, none⟩) hb).trans D2.out
      have d3 := (HBr.out.cell (p := ⟨b0, of + 3, none⟩) hb).trans D3.out
      have d4 := (HBr.out.cell (p := ⟨b0, of + 4, none⟩) hb).trans D4.out
      have q5 : wr.cell? ⟨b, 5, none⟩ = some (.slice none 0 0) := (hq.cell 5).trans rfl
      have q6 : wr.cell? ⟨b, 6, none⟩ = some (.slice none 0 0) := (hq.cell 6).trans rfl
      have qf := hq.frozen
      have ql := hq.lt
      have HQ := Lib.hid hq
      clear hq hbr
      go_wp2_with fail
      have HAm := Lib.hid ((alloc_below wr (.cells #[.string ⟨m.code.toArray⟩, .slice s.A1 m.procs.length s.c1, .slice s.A2 m.imports.length s.c2, .int .i64 m.data, .slice s.A3 m.init.length s.c3] 73)).trans (drew_below (wr.alloc (.cells #[.string ⟨m.code.toArray⟩, .slice s.A1 m.procs.length s.c1, .slice s.A2 m.imports.length s.c2, .int .i64 m.data, .slice s.A3 m.init.length s.c3] 73)) |>.mono (by simp)))
      have HZ0 := Lib.hid (HQ.out.grow HAm.out)
      have HBc0 := Lib.hid (HB3r.out.trans (HAm.out.mono (by have := HB3r.out.size; have := HL3.out; omega)))
      have HM0 := Lib.hid (show Bx wr.heap.size #[.string ⟨m.code.toArray⟩, .slice s.A1 m.procs.length s.c1, .slice s.A2 m.imports.length s.c2, .int .i64 m.data, .slice s.A3 m.init.length s.c3] 73 (wr.alloc (.cells #[.string ⟨m.code.toArray⟩, .slice s.A1 m.procs.length s.c1, .slice s.A2 m.imports.length s.c2, .int .i64 m.data, .slice s.A3 m.init.length s.c3] 73)).drew from (Bx.new wr _ _).grow (drew_below _))
      have hqb : wr.heap.size ≠ b := by omega
      clear d0 d1 d2 d3 d4 q5 q6 qf ql HBr HB3r HQ
      -- REGION9
      refine wp_region_M (fun W => Bx b (mcell (.pointer none) A4 c4 A5 o.length c5 (.pointer none) (.pointer none) (.slice none 0 0) (.slice none 0 0) 0 0) 79 W) (fun _ => True) [18, 21] (by kernel_rfl) ?_
      generalize (wr.alloc (.cells #[.string ⟨m.code.toArray⟩, .slice s.A1 m.procs.length s.c1, .slice s.A2 m.imports.length s.c2, .int .i64 m.data, .slice s.A3 m.init.length s.c3] 73)).drew = W0 at *
      refine M_take2 (i := 0) (v := ?_) rfl (by kernel_rfl) (by kernel_rfl) (by kernel_rfl) (by kernel_rfl) (fun _ _ _ h => h) (Or.inl ⟨by rfl, ?_⟩) HZ0.out trivial ?_
      rotate_left 1
      · intro w9 hS9
        go_simp
        try with_reducible rfl
      try simp only [Act.put]
      try simp only [List.setIfInBounds_toArray]
      refine M_take2 (i := 1) (v := ?_) rfl (by kernel_rfl) (by kernel_rfl) (by kernel_rfl) (by kernel_rfl) (fun _ _ _ h => h) (Or.inl ⟨by rfl, ?_⟩) HZ0.out trivial ?_
      rotate_left 1
      · intro w9 hS9
        go_simp
        try with_reducible rfl
      try simp only [Act.put]
      try simp only [List.setIfInBounds_toArray]
      refine M_take2 (i := 2) (v := ?_) rfl (by kernel_rfl) (by kernel_rfl) (by kernel_rfl) (by kernel_rfl) (fun _ _ _ h => h) (Or.inl ⟨by rfl, ?_⟩) HZ0.out trivial ?_
      rotate_left 1
      · intro w9 hS9
        go_simp
        try with_reducible rfl
      try simp only [Act.put]
      try simp only [List.setIfInBounds_toArray]
      refine M_take2 (i := 3) (v := ?_) rfl (by kernel_rfl) (by kernel_rfl) (by kernel_rfl) (by kernel_rfl) (fun _ _ _ h => h) (Or.inl ⟨by rfl, ?_⟩) HZ0.out trivial ?_
      rotate_left 1
      · intro w9 hS9
        go_simp
        try with_reducible rfl
      try simp only [Act.put]
      try simp only [List.setIfInBounds_toArray]
      refine M_take2 (i := 4) (v := ?_) rfl (by kernel_rfl) (by kernel_rfl) (by kernel_rfl) (by kernel_rfl) (fun _ _ _ h => h) (Or.inl ⟨by rfl, ?_⟩) HZ0.out trivial ?_
      rotate_left 1
      · intro w9 hS9
        go_simp
        try with_reducible rfl
      try simp only [Act.put]
      try simp only [List.setIfInBounds_toArray]
      refine M_take (i := 5) (v := ?_) rfl (by kernel_rfl) (by kernel_rfl) (by kernel_rfl) (by kernel_rfl) (by kernel_rfl) (fun _ _ _ h => h) (Or.inl ⟨by rfl, ?_⟩) HZ0.out trivial ?_
      rotate_left 1
      · intro w9 hS9
        have l5 : w9.cell? ⟨b, 5, none⟩ = some (.slice none 0 0) := (Bx.cell hS9 5).trans rfl
        go_simp
        try with_reducible rfl
      try simp only [Act.put]
      try simp only [List.setIfInBounds_toArray]
      refine M_take2 (i := 6) (v := ?_) rfl (by kernel_rfl) (by kernel_rfl) (by kernel_rfl) (by kernel_rfl) (fun _ _ _ h => h) (Or.inl ⟨by rfl, ?_⟩) HZ0.out trivial ?_
      rotate_left 1
      · intro w9 hS9
        go_simp
        try with_reducible rfl
      try simp only [Act.put]
      try simp only [List.setIfInBounds_toArray]
      refine M_take2 (i := 9) (v := ?_) rfl (by kernel_rfl) (by kernel_rfl) (by kernel_rfl) (by kernel_rfl) (fun _ _ _ h => h) (Or.inl ⟨by rfl, ?_⟩) HZ0.out trivial ?_
      rotate_left 1
      · intro w9 hS9
        go_simp
        try with_reducible rfl
      try simp only [Act.put]
      try simp only [List.setIfInBounds_toArray]
      refine M_take2 (i := 10) (v := ?_) rfl (by kernel_rfl) (by kernel_rfl) (by kernel_rfl) (by kernel_rfl) (fun _ _ _ h => h) (Or.inl ⟨by rfl, ?_⟩) HZ0.out trivial ?_
      rotate_left 1
      · intro w9 hS9
        go_simp
        try with_reducible rfl
      try simp only [Act.put]
      try simp only [List.setIfInBounds_toArray]
      refine M_take2 (i := 11) (v := ?_) rfl (by kernel_rfl) (by kernel_rfl) (by kernel_rfl) (by kernel_rfl) (fun _ _ _ h => h) (Or.inl ⟨by rfl, ?_⟩) HZ0.out trivial ?_
      rotate_left 1
      · intro w9 hS9
        go_simp
        try with_reducible rfl
      try simp only [Act.put]
      try simp only [List.setIfInBounds_toArray]
      refine M_take (i := 12) (v := ?_) rfl (by kernel_rfl) (by kernel_rfl) (by kernel_rfl) (by kernel_rfl) (by kernel_rfl) (fun _ _ _ h => h) (Or.inl ⟨by rfl, ?_⟩) HZ0.out trivial ?_
      rotate_left 1
      · intro w9 hS9
        have l5 : w9.cell? ⟨b, 6, none⟩ = some (.slice none 0 0) := (Bx.cell hS9 6).trans rfl
        go_simp
        try with_reducible rfl
      try simp only [Act.put]
      try simp only [List.setIfInBounds_toArray]
      refine M_take2 (i := 13) (v := ?_) rfl (by kernel_rfl) (by kernel_rfl) (by kernel_rfl) (by kernel_rfl) (fun _ _ _ h => h) (Or.inl ⟨by rfl, ?_⟩) HZ0.out trivial ?_
      rotate_left 1
      · intro w9 hS9
        go_simp
        try with_reducible rfl
      try simp only [Act.put]
      try simp only [List.setIfInBounds_toArray]
      refine M_all (rs := [7, 14]) (by kernel_rfl) (by simp) ?_
      intro j hj
      simp only [List.mem_cons, List.not_mem_nil, or_false] at hj
      rcases hj with rfl | rfl
      · refine M_step rfl (by rfl) (fun K' hK => ?_)
        go_simp
        have HA1 := Lib.hid (alloc_below W0 (.cells #[.int .i64 1] 3))
        have HZ1 := Lib.hid (HZ0.out.grow HA1.out)
        have HBc1 := Lib.hid (HBc0.out.trans (HA1.out.mono (by have := HBc0.out.size; have := HL3.out; omega)))
        have HY7x1 := Lib.hid (Bx.new W0 #[.int .i64 1] 3)
        have HM1 := Lib.hid (HM0.out.grow HA1.out)
        refine hK.out _ _ trivial HZ1.out ?_
        try simp only [Act.put]
        try simp only [List.setIfInBounds_toArray]
        clear hK K'
        generalize W0.alloc _ = W1 at *
        generalize W0.heap.size = g7 at *
        refine M_all (rs := [8, 14]) (by kernel_rfl) (by simp) ?_
        intro j hj
        simp only [List.mem_cons, List.not_mem_nil, or_false] at hj
        rcases hj with rfl | rfl
        · refine M_step rfl (by rfl) (fun K' hK => ?_)
          refine step_app etInts8 (by rfl) _ _ (by rfl) W1.heap.size _ 0 [] (by rfl) (World.ownsRow_nil _ _ _ _) _ 1 _ (by rfl) (src_one8 1 ((HY7x1.out.cell 0).trans rfl)) (by omega) (by unfold maxLen; omega) (Nat.le_refl _) ?_
          intro v2 W2 hA2
          obtain ⟨A8, c8, hv2⟩ := own_slice' hA2.own
          subst hv2
          have HA2 := Lib.hid (hA2.below (Below.refl _ _) (Nat.le_refl _) (World.ownsRow_nil _ _ _ _) (Nat.le_refl _))
          have HI8x2 := Lib.hid (show Ints (mask [b] W2) A8 [1] from own_ints8m (l := [1]) (B := W1.heap.size) [b] (by have := HZ1.out.lt; intro b' hb'; simp at hb'; omega) (by simpa [intCells8] using hA2.own))
          clear hA2
          have HZ2 := Lib.hid (HZ1.out.grow HA2.out)
          have HBc2 := Lib.hid (HBc1.out.trans (HA2.out.mono (by have := HBc1.out.size; have := HL3.out; omega)))
          have HM2 := Lib.hid (HM1.out.grow HA2.out)
          have HY7x2 := Lib.hid (HY7x1.out.grow HA2.out)
          refine hK.out _ _ trivial HZ2.out ?_
          try simp only [Act.put]
          try simp only [List.setIfInBounds_toArray]
          clear hK K'
          refine M_all (rs := [14]) (by kernel_rfl) (by simp) ?_
          intro j hj
          simp only [List.mem_cons, List.not_mem_nil, or_false] at hj
          subst hj
          refine M_step rfl (by rfl) (fun K' hK => ?_)
          go_simp
          have HA3 := Lib.hid (alloc_below W2 (.cells #[.int .i64 1] 3))
          have HZ3 := Lib.hid (HZ2.out.grow HA3.out)
          have HBc3 := Lib.hid (HBc2.out.trans (HA3.out.mono (by have := HBc2.out.size; have := HL3.out; omega)))
          have HY14x3 := Lib.hid (Bx.new W2 #[.int .i64 1] 3)
          have HM3 := Lib.hid (HM2.out.grow HA3.out)
          have HI8x3 := Lib.hid (HI8x2.out.only8 (Only.of_below HA3.out))
          refine hK.out _ _ trivial HZ3.out ?_
          try simp only [Act.put]
          try simp only [List.setIfInBounds_toArray]
          clear hK K'
          generalize W2.alloc _ = W3 at *
          generalize W2.heap.size = g14 at *
          refine M_all (rs := [15]) (by kernel_rfl) (by simp) ?_
          intro j hj
          simp only [List.mem_cons, List.not_mem_nil, or_false] at hj
          subst hj
          refine M_step rfl (by rfl) (fun K' hK => ?_)
          refine step_app etInts8 (by rfl) _ _ (by rfl) W3.heap.size _ 0 [] (by rfl) (World.ownsRow_nil _ _ _ _) _ 1 _ (by rfl) (src_one8 1 ((HY14x3.out.cell 0).trans rfl)) (by omega) (by unfold maxLen; omega) (Nat.le_refl _) ?_
          intro v4 W4 hA4
          obtain ⟨A15, c15, hv4⟩ := own_slice' hA4.own
          subst hv4
          have HA4 := Lib.hid (hA4.below (Below.refl _ _) (Nat.le_refl _) (World.ownsRow_nil _ _ _ _) (Nat.le_refl _))
          have HI15x4 := Lib.hid (show Ints (mask [b] W4) A15 [1] from own_ints8m (l := [1]) (B := W3.heap.size) [b] (by have := HZ3.out.lt; intro b' hb'; simp at hb'; omega) (by simpa [intCells8] using hA4.own))
          clear hA4
          have HZ4 := Lib.hid (HZ3.out.grow HA4.out)
          have HBc4 := Lib.hid (HBc3.out.trans (HA4.out.mono (by have := HBc3.out.size; have := HL3.out; omega)))
          have HM4 := Lib.hid (HM3.out.grow HA4.out)
          have HI8x4 := Lib.hid (HI8x3.out.only8 (Only.of_below HA4.out))
          have HY14x4 := Lib.hid (HY14x3.out.grow HA4.out)
          refine hK.out _ _ trivial HZ4.out ?_
          try simp only [Act.put]
          try simp only [List.setIfInBounds_toArray]
          clear hK K'
          refine M_take2 (i := 16) (v := ?_) rfl (by kernel_rfl) (by kernel_rfl) (by kernel_rfl) (by kernel_rfl) (fun _ _ _ h => h) (Or.inl ⟨by rfl, ?_⟩) HZ4.out trivial ?_
          rotate_left 1
          · intro w9 hS9
            go_simp
            try with_reducible rfl
          try simp only [Act.put]
          try simp only [List.setIfInBounds_toArray]
          refine M_take2 (i := 17) (v := ?_) rfl (by kernel_rfl) (by kernel_rfl) (by kernel_rfl) (by kernel_rfl) (fun _ _ _ h => h) (Or.inl ⟨by rfl, ?_⟩) HZ4.out trivial ?_
          rotate_left 1
          · intro w9 hS9
            go_simp
            try with_reducible rfl
          try simp only [Act.put]
          try simp only [List.setIfInBounds_toArray]
          have z5 : W4.cell? ⟨b, 5, none⟩ = some (.slice none 0 0) := (HZ4.out.cell 5).trans rfl
          have z6 : W4.cell? ⟨b, 6, none⟩ = some (.slice none 0 0) := (HZ4.out.cell 6).trans rfl
          have zf := HZ4.out.frozen
          have zl := HZ4.out.lt
          refine M_all (rs := [18]) (by kernel_rfl) (by simp) ?_
          intro j hj
          simp only [List.mem_cons, List.not_mem_nil, or_false] at hj
          subst hj
          refine M_late rfl (by rfl) (fun K' hK => ?_)
          go_simp
          refine hK.out _ _ trivial ?_
          try simp only [Act.put]
          try simp only [List.setIfInBounds_toArray]
          clear hK K'
          refine wpAnyH_ready (rs := [19]) (by kernel_rfl) (by simp) ?_
          refine AllReadyH.cons rfl (fun K' hK => ?_) AllReadyH.nil
          go_simp
          refine hK.out _ _ trivial (fun _ => ?_)
          try simp only [Act.put]
          try simp only [List.setIfInBounds_toArray]
          clear hK K'
          refine wpAnyH_ready (rs := [20]) (by kernel_rfl) (by simp) ?_
          refine AllReadyH.cons rfl (fun K' hK => ?_) AllReadyH.nil
          go_simp
          refine hK.out _ _ trivial (fun _ => ?_)
          try simp only [Act.put]
          try simp only [List.setIfInBounds_toArray]
          clear hK K'
          refine wpAnyH_ready (rs := [21]) (by kernel_rfl) (by simp) ?_
          refine AllReadyH.cons rfl (fun K' hK => ?_) AllReadyH.nil
          go_simp
          refine hK.out _ _ trivial (fun _ => ?_)
          try simp only [Act.put]
          try simp only [List.setIfInBounds_toArray]
          clear hK K'
          refine wpAnyH_done (by kernel_rfl) ?_ _
          have HE := Lib.hid (show Bx b (mcell (.pointer none) A4 c4 A5 o.length c5 (.pointer none) (.pointer none) (.slice A8 1 c8) (.slice A15 1 c15) 0 0) 79 _ from ((HZ4.out.set 5 (.slice A8 1 c8)).set 6 (.slice A15 1 c15)).to rfl)
          have HEo := Lib.hid (show Only [b] W4 _ from ((Only.refl [b] W4).setCell (a := ⟨b, 5, none⟩) (by simp) (.slice A8 1 c8)).setCell (a := ⟨b, 6, none⟩) (by simp) (.slice A15 1 c15))
          have HEb := Lib.hid ((HBc4.out.setCell (p := ⟨b, 5, none⟩) (by simp) (.slice A8 1 c8)).setCell (p := ⟨b, 6, none⟩) (by simp) (.slice A15 1 c15))
          have HE8 := Lib.hid (HI8x4.out.only8 HEo.out)
          have HE9 := Lib.hid (HI15x4.out.only8 HEo.out)
          have HEm := Lib.hid (HM4.out.far (a := ⟨b, 5, none⟩) hqb (.slice A8 1 c8) |>.far (a := ⟨b, 6, none⟩) hqb (.slice A15 1 c15))
          generalize World.setCell _ _ _ = we at *
          have m1 : we.cell? ⟨wr.heap.size, 1, none⟩ = some (.slice s.A1 m.procs.length s.c1) := (HEm.out.cell 1).trans rfl
          have m3 : we.cell? ⟨wr.heap.size, 3, none⟩ = some (.int .i64 m.data) := (HEm.out.cell 3).trans rfl
          have ml := HEm.out.lt
          have hdI : m.data ≤ 65535 := by omega
          have hpI : (m.procs.length : Int) ≤ 1024 := by omega
          clear z5 z6 zf zl
          go_wp2_with fail
          go_roundg 0
          case measure => omega
          case rel => exact ⟨HEb.out, .inr ⟨rfl, rfl, rfl, rfl, A8, A15, c8, c15, HE.out, HE8.out, HE9.out⟩⟩
        · refine M_step rfl (by rfl) (fun K' hK => ?_)
          go_simp
          have HA2 := Lib.hid (alloc_below W1 (.cells #[.int .i64 1] 3))
          have HZ2 := Lib.hid (HZ1.out.grow HA2.out)
          have HBc2 := Lib.hid (HBc1.out.trans (HA2.out.mono (by have := HBc1.out.size; have := HL3.out; omega)))
          have HY14x2 := Lib.hid (Bx.new W1 #[.int .i64 1] 3)
          have HM2 := Lib.hid (HM1.out.grow HA2.out)
          have HY7x2 := Lib.hid (HY7x1.out.grow HA2.out)
          refine hK.out _ _ trivial HZ2.out ?_
          try simp only [Act.put]
          try simp only [List.setIfInBounds_toArray]
          clear hK K'
          generalize W1.alloc _ = W2 at *
          generalize W1.heap.size = g14 at *
          refine M_all (rs := [8]) (by kernel_rfl) (by simp) ?_
          intro j hj
          simp only [List.mem_cons, List.not_mem_nil, or_false] at hj
          subst hj
          refine M_step rfl (by rfl) (fun K' hK => ?_)
          refine step_app etInts8 (by rfl) _ _ (by rfl) W2.heap.size _ 0 [] (by rfl) (World.ownsRow_nil _ _ _ _) _ 1 _ (by rfl) (src_one8 1 ((HY7x2.out.cell 0).trans rfl)) (by omega) (by unfold maxLen; omega) (Nat.le_refl _) ?_
          intro v3 W3 hA3
          obtain ⟨A8, c8, hv3⟩ := own_slice' hA3.own
          subst hv3
          have HA3 := Lib.hid (hA3.below (Below.refl _ _) (Nat.le_refl _) (World.ownsRow_nil _ _ _ _) (Nat.le_refl _))
          have HI8x3 := Lib.hid (show Ints (mask [b] W3) A8 [1] from own_ints8m (l := [1]) (B := W2.heap.size) [b] (by have := HZ2.out.lt; intro b' hb'; simp at hb'; omega) (by simpa [intCells8] using hA3.own))
          clear hA3
          have HZ3 := Lib.hid (HZ2.out.grow HA3.out)
          have HBc3 := Lib.hid (HBc2.out.trans (HA3.out.mono (by have := HBc2.out.size; have := HL3.out; omega)))
          have HM3 := Lib.hid (HM2.out.grow HA3.out)
          have HY7x3 := Lib.hid (HY7x2.out.grow HA3.out)
          have HY14x3 := Lib.hid (HY14x2.out.grow HA3.out)
          refine hK.out _ _ trivial HZ3.out ?_
          try simp only [Act.put]
          try simp only [List.setIfInBounds_toArray]
          clear hK K'
          refine M_all (rs := [15]) (by kernel_rfl) (by simp) ?_
          intro j hj
          simp only [List.mem_cons, List.not_mem_nil, or_false] at hj
          subst hj
          refine M_step rfl (by rfl) (fun K' hK => ?_)
          refine step_app etInts8 (by rfl) _ _ (by rfl) W3.heap.size _ 0 [] (by rfl) (World.ownsRow_nil _ _ _ _) _ 1 _ (by rfl) (src_one8 1 ((HY14x3.out.cell 0).trans rfl)) (by omega) (by unfold maxLen; omega) (Nat.le_refl _) ?_
          intro v4 W4 hA4
          obtain ⟨A15, c15, hv4⟩ := own_slice' hA4.own
          subst hv4
          have HA4 := Lib.hid (hA4.below (Below.refl _ _) (Nat.le_refl _) (World.ownsRow_nil _ _ _ _) (Nat.le_refl _))
          have HI15x4 := Lib.hid (show Ints (mask [b] W4) A15 [1] from own_ints8m (l := [1]) (B := W3.heap.size) [b] (by have := HZ3.out.lt; intro b' hb'; simp at hb'; omega) (by simpa [intCells8] using hA4.own))
          clear hA4
          have HZ4 := Lib.hid (HZ3.out.grow HA4.out)
          have HBc4 := Lib.hid (HBc3.out.trans (HA4.out.mono (by have := HBc3.out.size; have := HL3.out; omega)))
          have HM4 := Lib.hid (HM3.out.grow HA4.out)
          have HI8x4 := Lib.hid (HI8x3.out.only8 (Only.of_below HA4.out))
          have HY14x4 := Lib.hid (HY14x3.out.grow HA4.out)
          refine hK.out _ _ trivial HZ4.out ?_
          try simp only [Act.put]
          try simp only [List.setIfInBounds_toArray]
          clear hK K'
          refine M_take2 (i := 16) (v := ?_) rfl (by kernel_rfl) (by kernel_rfl) (by kernel_rfl) (by kernel_rfl) (fun _ _ _ h => h) (Or.inl ⟨by rfl, ?_⟩) HZ4.out trivial ?_
          rotate_left 1
          · intro w9 hS9
            go_simp
            try with_reducible rfl
          try simp only [Act.put]
          try simp only [List.setIfInBounds_toArray]
          refine M_take2 (i := 17) (v := ?_) rfl (by kernel_rfl) (by kernel_rfl) (by kernel_rfl) (by kernel_rfl) (fun _ _ _ h => h) (Or.inl ⟨by rfl, ?_⟩) HZ4.out trivial ?_
          rotate_left 1
          · intro w9 hS9
            go_simp
            try with_reducible rfl
          try simp only [Act.put]
          try simp only [List.setIfInBounds_toArray]
          have z5 : W4.cell? ⟨b, 5, none⟩ = some (.slice none 0 0) := (HZ4.out.cell 5).trans rfl
          have z6 : W4.cell? ⟨b, 6, none⟩ = some (.slice none 0 0) := (HZ4.out.cell 6).trans rfl
          have zf := HZ4.out.frozen
          have zl := HZ4.out.lt
          refine M_all (rs := [18]) (by kernel_rfl) (by simp) ?_
          intro j hj
          simp only [List.mem_cons, List.not_mem_nil, or_false] at hj
          subst hj
          refine M_late rfl (by rfl) (fun K' hK => ?_)
          go_simp
          refine hK.out _ _ trivial ?_
          try simp only [Act.put]
          try simp only [List.setIfInBounds_toArray]
          clear hK K'
          refine wpAnyH_ready (rs := [19]) (by kernel_rfl) (by simp) ?_
          refine AllReadyH.cons rfl (fun K' hK => ?_) AllReadyH.nil
          go_simp
          refine hK.out _ _ trivial (fun _ => ?_)
          try simp only [Act.put]
          try simp only [List.setIfInBounds_toArray]
          clear hK K'
          refine wpAnyH_ready (rs := [20]) (by kernel_rfl) (by simp) ?_
          refine AllReadyH.cons rfl (fun K' hK => ?_) AllReadyH.nil
          go_simp
          refine hK.out _ _ trivial (fun _ => ?_)
          try simp only [Act.put]
          try simp only [List.setIfInBounds_toArray]
          clear hK K'
          refine wpAnyH_ready (rs := [21]) (by kernel_rfl) (by simp) ?_
          refine AllReadyH.cons rfl (fun K' hK => ?_) AllReadyH.nil
          go_simp
          refine hK.out _ _ trivial (fun _ => ?_)
          try simp only [Act.put]
          try simp only [List.setIfInBounds_toArray]
          clear hK K'
          refine wpAnyH_done (by kernel_rfl) ?_ _
          have HE := Lib.hid (show Bx b (mcell (.pointer none) A4 c4 A5 o.length c5 (.pointer none) (.pointer none) (.slice A8 1 c8) (.slice A15 1 c15) 0 0) 79 _ from ((HZ4.out.set 5 (.slice A8 1 c8)).set 6 (.slice A15 1 c15)).to rfl)
          have HEo := Lib.hid (show Only [b] W4 _ from ((Only.refl [b] W4).setCell (a := ⟨b, 5, none⟩) (by simp) (.slice A8 1 c8)).setCell (a := ⟨b, 6, none⟩) (by simp) (.slice A15 1 c15))
          have HEb := Lib.hid ((HBc4.out.setCell (p := ⟨b, 5, none⟩) (by simp) (.slice A8 1 c8)).setCell (p := ⟨b, 6, none⟩) (by simp) (.slice A15 1 c15))
          have HE8 := Lib.hid (HI8x4.out.only8 HEo.out)
          have HE9 := Lib.hid (HI15x4.out.only8 HEo.out)
          have HEm := Lib.hid (HM4.out.far (a := ⟨b, 5, none⟩) hqb (.slice A8 1 c8) |>.far (a := ⟨b, 6, none⟩) hqb (.slice A15 1 c15))
          generalize World.setCell _ _ _ = we at *
          have m1 : we.cell? ⟨wr.heap.size, 1, none⟩ = some (.slice s.A1 m.procs.length s.c1) := (HEm.out.cell 1).trans rfl
          have m3 : we.cell? ⟨wr.heap.size, 3, none⟩ = some (.int .i64 m.data) := (HEm.out.cell 3).trans rfl
          have ml := HEm.out.lt
          have hdI : m.data ≤ 65535 := by omega
          have hpI : (m.procs.length : Int) ≤ 1024 := by omega
          clear z5 z6 zf zl
          go_wp2_with fail
          go_roundg 0
          case measure => omega
          case rel => exact ⟨HEb.out, .inr ⟨rfl, rfl, rfl, rfl, A8, A15, c8, c15, HE.out, HE8.out, HE9.out⟩⟩
      · refine M_step rfl (by rfl) (fun K' hK => ?_)
        go_simp
        have HA1 := Lib.hid (alloc_below W0 (.cells #[.int .i64 1] 3))
        have HZ1 := Lib.hid (HZ0.out.grow HA1.out)
        have HBc1 := Lib.hid (HBc0.out.trans (HA1.out.mono (by have := HBc0.out.size; have := HL3.out; omega)))
        have HY14x1 := Lib.hid (Bx.new W0 #[.int .i64 1] 3)
        have HM1 := Lib.hid (HM0.out.grow HA1.out)
        refine hK.out _ _ trivial HZ1.out ?_
        try simp only [Act.put]
        try simp only [List.setIfInBounds_toArray]
        clear hK K'
        generalize W0.alloc _ = W1 at *
        generalize W0.heap.size = g14 at *
        refine M_all (rs := [7]) (by kernel_rfl) (by simp) ?_
        intro j hj
        simp only [List.mem_cons, List.not_mem_nil, or_false] at hj
        subst hj
        refine M_step rfl (by rfl) (fun K' hK => ?_)
        go_simp
        have HA2 := Lib.hid (alloc_below W1 (.cells #[.int .i64 1] 3))
        have HZ2 := Lib.hid (HZ1.out.grow HA2.out)
        have HBc2 := Lib.hid (HBc1.out.trans (HA2.out.mono (by have := HBc1.out.size; have := HL3.out; omega)))
        have HY7x2 := Lib.hid (Bx.new W1 #[.int .i64 1] 3)
        have HM2 := Lib.hid (HM1.out.grow HA2.out)
        have HY14x2 := Lib.hid (HY14x1.out.grow HA2.out)
        refine hK.out _ _ trivial HZ2.out ?_
        try simp only [Act.put]
        try simp only [List.setIfInBounds_toArray]
        clear hK K'
        generalize W1.alloc _ = W2 at *
        generalize W1.heap.size = g7 at *
        refine M_all (rs := [8]) (by kernel_rfl) (by simp) ?_
        intro j hj
        simp only [List.mem_cons, List.not_mem_nil, or_false] at hj
        subst hj
        refine M_step rfl (by rfl) (fun K' hK => ?_)
        refine step_app etInts8 (by rfl) _ _ (by rfl) W2.heap.size _ 0 [] (by rfl) (World.ownsRow_nil _ _ _ _) _ 1 _ (by rfl) (src_one8 1 ((HY7x2.out.cell 0).trans rfl)) (by omega) (by unfold maxLen; omega) (Nat.le_refl _) ?_
        intro v3 W3 hA3
        obtain ⟨A8, c8, hv3⟩ := own_slice' hA3.own
        subst hv3
        have HA3 := Lib.hid (hA3.below (Below.refl _ _) (Nat.le_refl _) (World.ownsRow_nil _ _ _ _) (Nat.le_refl _))
        have HI8x3 := Lib.hid (show Ints (mask [b] W3) A8 [1] from own_ints8m (l := [1]) (B := W2.heap.size) [b] (by have := HZ2.out.lt; intro b' hb'; simp at hb'; omega) (by simpa [intCells8] using hA3.own))
        clear hA3
        have HZ3 := Lib.hid (HZ2.out.grow HA3.out)
        have HBc3 := Lib.hid (HBc2.out.trans (HA3.out.mono (by have := HBc2.out.size; have := HL3.out; omega)))
        have HM3 := Lib.hid (HM2.out.grow HA3.out)
        have HY7x3 := Lib.hid (HY7x2.out.grow HA3.out)
        have HY14x3 := Lib.hid (HY14x2.out.grow HA3.out)
        refine hK.out _ _ trivial HZ3.out ?_
        try simp only [Act.put]
        try simp only [List.setIfInBounds_toArray]
        clear hK K'
        refine M_all (rs := [15]) (by kernel_rfl) (by simp) ?_
        intro j hj
        simp only [List.mem_cons, List.not_mem_nil, or_false] at hj
        subst hj
        refine M_step rfl (by rfl) (fun K' hK => ?_)
        refine step_app etInts8 (by rfl) _ _ (by rfl) W3.heap.size _ 0 [] (by rfl) (World.ownsRow_nil _ _ _ _) _ 1 _ (by rfl) (src_one8 1 ((HY14x3.out.cell 0).trans rfl)) (by omega) (by unfold maxLen; omega) (Nat.le_refl _) ?_
        intro v4 W4 hA4
        obtain ⟨A15, c15, hv4⟩ := own_slice' hA4.own
        subst hv4
        have HA4 := Lib.hid (hA4.below (Below.refl _ _) (Nat.le_refl _) (World.ownsRow_nil _ _ _ _) (Nat.le_refl _))
        have HI15x4 := Lib.hid (show Ints (mask [b] W4) A15 [1] from own_ints8m (l := [1]) (B := W3.heap.size) [b] (by have := HZ3.out.lt; intro b' hb'; simp at hb'; omega) (by simpa [intCells8] using hA4.own))
        clear hA4
        have HZ4 := Lib.hid (HZ3.out.grow HA4.out)
        have HBc4 := Lib.hid (HBc3.out.trans (HA4.out.mono (by have := HBc3.out.size; have := HL3.out; omega)))
        have HM4 := Lib.hid (HM3.out.grow HA4.out)
        have HI8x4 := Lib.hid (HI8x3.out.only8 (Only.of_below HA4.out))
        have HY14x4 := Lib.hid (HY14x3.out.grow HA4.out)
        refine hK.out _ _ trivial HZ4.out ?_
        try simp only [Act.put]
        try simp only [List.setIfInBounds_toArray]
        clear hK K'
        refine M_take2 (i := 16) (v := ?_) rfl (by kernel_rfl) (by kernel_rfl) (by kernel_rfl) (by kernel_rfl) (fun _ _ _ h => h) (Or.inl ⟨by rfl, ?_⟩) HZ4.out trivial ?_
        rotate_left 1
        · intro w9 hS9
          go_simp
          try with_reducible rfl
        try simp only [Act.put]
        try simp only [List.setIfInBounds_toArray]
        refine M_take2 (i := 17) (v := ?_) rfl (by kernel_rfl) (by kernel_rfl) (by kernel_rfl) (by kernel_rfl) (fun _ _ _ h => h) (Or.inl ⟨by rfl, ?_⟩) HZ4.out trivial ?_
        rotate_left 1
        · intro w9 hS9
          go_simp
          try with_reducible rfl
        try simp only [Act.put]
        try simp only [List.setIfInBounds_toArray]
        have z5 : W4.cell? ⟨b, 5, none⟩ = some (.slice none 0 0) := (HZ4.out.cell 5).trans rfl
        have z6 : W4.cell? ⟨b, 6, none⟩ = some (.slice none 0 0) := (HZ4.out.cell 6).trans rfl
        have zf := HZ4.out.frozen
        have zl := HZ4.out.lt
        refine M_all (rs := [18]) (by kernel_rfl) (by simp) ?_
        intro j hj
        simp only [List.mem_cons, List.not_mem_nil, or_false] at hj
        subst hj
        refine M_late rfl (by rfl) (fun K' hK => ?_)
        go_simp
        refine hK.out _ _ trivial ?_
        try simp only [Act.put]
        try simp only [List.setIfInBounds_toArray]
        clear hK K'
        refine wpAnyH_ready (rs := [19]) (by kernel_rfl) (by simp) ?_
        refine AllReadyH.cons rfl (fun K' hK => ?_) AllReadyH.nil
        go_simp
        refine hK.out _ _ trivial (fun _ => ?_)
        try simp only [Act.put]
        try simp only [List.setIfInBounds_toArray]
        clear hK K'
        refine wpAnyH_ready (rs := [20]) (by kernel_rfl) (by simp) ?_
        refine AllReadyH.cons rfl (fun K' hK => ?_) AllReadyH.nil
        go_simp
        refine hK.out _ _ trivial (fun _ => ?_)
        try simp only [Act.put]
        try simp only [List.setIfInBounds_toArray]
        clear hK K'
        refine wpAnyH_ready (rs := [21]) (by kernel_rfl) (by simp) ?_
        refine AllReadyH.cons rfl (fun K' hK => ?_) AllReadyH.nil
        go_simp
        refine hK.out _ _ trivial (fun _ => ?_)
        try simp only [Act.put]
        try simp only [List.setIfInBounds_toArray]
        clear hK K'
        refine wpAnyH_done (by kernel_rfl) ?_ _
        have HE := Lib.hid (show Bx b (mcell (.pointer none) A4 c4 A5 o.length c5 (.pointer none) (.pointer none) (.slice A8 1 c8) (.slice A15 1 c15) 0 0) 79 _ from ((HZ4.out.set 5 (.slice A8 1 c8)).set 6 (.slice A15 1 c15)).to rfl)
        have HEo := Lib.hid (show Only [b] W4 _ from ((Only.refl [b] W4).setCell (a := ⟨b, 5, none⟩) (by simp) (.slice A8 1 c8)).setCell (a := ⟨b, 6, none⟩) (by simp) (.slice A15 1 c15))
        have HEb := Lib.hid ((HBc4.out.setCell (p := ⟨b, 5, none⟩) (by simp) (.slice A8 1 c8)).setCell (p := ⟨b, 6, none⟩) (by simp) (.slice A15 1 c15))
        have HE8 := Lib.hid (HI8x4.out.only8 HEo.out)
        have HE9 := Lib.hid (HI15x4.out.only8 HEo.out)
        have HEm := Lib.hid (HM4.out.far (a := ⟨b, 5, none⟩) hqb (.slice A8 1 c8) |>.far (a := ⟨b, 6, none⟩) hqb (.slice A15 1 c15))
        generalize World.setCell _ _ _ = we at *
        have m1 : we.cell? ⟨wr.heap.size, 1, none⟩ = some (.slice s.A1 m.procs.length s.c1) := (HEm.out.cell 1).trans rfl
        have m3 : we.cell? ⟨wr.heap.size, 3, none⟩ = some (.int .i64 m.data) := (HEm.out.cell 3).trans rfl
        have ml := HEm.out.lt
        have hdI : m.data ≤ 65535 := by omega
        have hpI : (m.procs.length : Int) ≤ 1024 := by omega
        clear z5 z6 zf zl
        go_wp2_with fail
        go_roundg 0
        case measure => omega
        case rel => exact ⟨HEb.out, .inr ⟨rfl, rfl, rfl, rfl, A8, A15, c8, c15, HE.out, HE8.out, HE9.out⟩⟩
      -- END9
    · have HX4 := Lib.hid (show Bx W.heap.size #[.slice (some ⟨b0, of, none⟩) 1 c2, .slice A3 o.length c3] 31 wr from (hbr.block _ xl).trans HX3.out)
      have HY4 := Lib.hid (show Bx (W.heap.size + 1) #[.int .i64 st, .int .i64 hp, .int .i64 out] 44 wr from (hbr.block _ hYb).trans HY3.out)
      have HBr := Lib.hid hbr
      have HQ4 := Lib.hid hq
      have H6 := Lib.hid h6
      have H7 := Lib.hid h7
      clear hbr hq h6 h7 HX3 HY3
      rename World => wA
      have y0 : wA.cell? ⟨W.heap.size + 1, 0, none⟩ = some (.int .i64 st) := (HY4.out.cell 0).trans rfl
      have y1 : wA.cell? ⟨W.heap.size + 1, 1, none⟩ = some (.int .i64 hp) := (HY4.out.cell 1).trans rfl
      have y2 : wA.cell? ⟨W.heap.size + 1, 2, none⟩ = some (.int .i64 out) := (HY4.out.cell 2).trans rfl
      have ys := HY4.out.lt
      have i1 : (st : Int) ≤ 65535 := by omega
      have i2 : (hp : Int) ≤ 65535 := by omega
      have i3 : m.data ≤ 65535 := by omega
      have n1 : decide ((st : Int) < 0) = false := decide_eq_false (by omega)
      have n2 : decide ((hp : Int) < 0) = false := decide_eq_false (by omega)
      have n3 : decide ((65535 : Int) < st) = false := decide_eq_false (by omega)
      have n4 : decide ((65535 : Int) < hp) = false := decide_eq_false (by omega)
      have n5 : decide ((65535 : Int) < 1 + m.data - 1 + st + hp) = false := decide_eq_false (by omega)
      go_wp2_with fail
      refine (termNew_any inp hil out (by omega) (by omega) _).mono ?_
      rintro e w4 ⟨rfl, hT4, hb4⟩
      have HAb := Lib.hid hb4
      have hbA : b < wA.heap.size := HQ4.out.lt
      have hq5 := HQ4.out.grow hb4
      have HY5 := Lib.hid (HY4.out.grow hb4)
      have HX5 := Lib.hid (HX4.out.grow hb4)
      have HT4 := Lib.hid hT4
      have q0 : w4.cell? ⟨b, 0, none⟩ = some (.pointer none) := (hq5.cell 0).trans rfl
      have qf := hq5.frozen
      have ql := hq5.lt
      have HQ5 := Lib.hid ((hq5.set 0 (.pointer (some ⟨wA.heap.size, 0, none⟩))).to (ds := mcell (.pointer (some ⟨wA.heap.size, 0, none⟩)) A4 c4 A5 o.length c5 (.pointer none) (.pointer none) (.slice A6 1 c6) (.slice A7 1 c7) 0 0) rfl)
      have HT5 := Lib.hid (HT4.out.far (a := ⟨b, 0, none⟩) (by simp only; omega) (.pointer (some ⟨wA.heap.size, 0, none⟩)))
      have hyb : W.heap.size + 1 ≠ b := by omega
      have hxb : W.heap.size ≠ b := by omega
      have HY6 := Lib.hid (HY5.out.far (a := ⟨b, 0, none⟩) hyb (.pointer (some ⟨wA.heap.size, 0, none⟩)))
      have HX6 := Lib.hid (HX5.out.far (a := ⟨b, 0, none⟩) hxb (.pointer (some ⟨wA.heap.size, 0, none⟩)))
      have OA := Lib.hid (show Only [b] wA (w4.setCell ⟨b, 0, none⟩ (.pointer (some ⟨wA.heap.size, 0, none⟩))) from (Only.of_below HAb.out).setCell (by simp) _)
      clear hT4 hq5 hb4 HQ4 HY4 HX4 HY5 HX5 HT4 HAb y0 y1 y2 n1 n2 n3 n4 n5
      go_upto_region 19 with (fail)
      generalize w4.setCell ⟨b, 0, none⟩ (.pointer (some ⟨wA.heap.size, 0, none⟩)) = w5 at *
      clear q0 qf ql
      have y0 : w5.cell? ⟨W.heap.size + 1, 0, none⟩ = some (.int .i64 st) := (HY6.out.cell 0).trans rfl
      have y1 : w5.cell? ⟨W.heap.size + 1, 1, none⟩ = some (.int .i64 hp) := (HY6.out.cell 1).trans rfl
      have ys := HY6.out.lt
      go_wp2_with fail
      refine (memNew_eq (n := m.data.toNat + st + hp) (by omega) (by omega) _).mono ?_
      rintro e w6 ⟨rfl, hm6, hb6⟩
      have HAb := Lib.hid hb6
      have HM6 := Lib.hid hm6
      have hq6 := HQ5.out.grow hb6
      have q3 : w6.cell? ⟨b, 3, none⟩ = some (.pointer none) := (hq6.cell 3).trans rfl
      have qf := hq6.frozen
      have ql := hq6.lt
      have hb5 : b < w5.heap.size := HQ5.out.lt
      have hbt5 : wA.heap.size < w5.heap.size := HT5.out.lt
      have HQ6 := Lib.hid ((hq6.set 3 (.pointer (some ⟨w5.heap.size, 0, none⟩))).to (ds := mcell (.pointer (some ⟨wA.heap.size, 0, none⟩)) A4 c4 A5 o.length c5 (.pointer (some ⟨w5.heap.size, 0, none⟩)) (.pointer none) (.slice A6 1 c6) (.slice A7 1 c7) 0 0) rfl)
      have HT6 := Lib.hid ((HT5.out.grow hb6).far (a := ⟨b, 3, none⟩) (by simp only; omega) (.pointer (some ⟨w5.heap.size, 0, none⟩)))
      have HY7 := Lib.hid ((HY6.out.grow hb6).far (a := ⟨b, 3, none⟩) hyb (.pointer (some ⟨w5.heap.size, 0, none⟩)))
      have HX7 := Lib.hid ((HX6.out.grow hb6).far (a := ⟨b, 3, none⟩) hxb (.pointer (some ⟨w5.heap.size, 0, none⟩)))
      have HM7 := Lib.hid (hm6.later (Below.heap_setCell w6 ⟨b, 3, none⟩ (.pointer (some ⟨w5.heap.size, 0, none⟩)) w5.heap.size (by simp only; omega)))
      have OB := Lib.hid (OA.out.trans (show Only [b] w5 (w6.setCell ⟨b, 3, none⟩ (.pointer (some ⟨w5.heap.size, 0, none⟩))) from (Only.of_below HAb.out).setCell (by simp) _))
      clear hm6 hq6 hb6 HM6 HQ5 HY6 HX6 HT5 HAb OA y0 y1
      go_upto_region 20 with (fail)
      generalize w6.setCell ⟨b, 3, none⟩ (.pointer (some ⟨w5.heap.size, 0, none⟩)) = w7 at *
      clear q3 qf ql
      generalize w5.heap.size = bm at *
      have y0 : w7.cell? ⟨W.heap.size + 1, 0, none⟩ = some (.int .i64 st) := (HY7.out.cell 0).trans rfl
      have q6 : w7.cell? ⟨b, 7, none⟩ = some (.int .i64 0) := (HQ6.out.cell 7).trans rfl
      have q7 : w7.cell? ⟨b, 8, none⟩ = some (.int .i64 0) := (HQ6.out.cell 8).trans rfl
      have qf := HQ6.out.frozen
      have ql := HQ6.out.lt
      have ys := HY7.out.lt
      have e1 : IntKind.i64.wrap (1 + m.data + (st : Int)) = 1 + m.data + st := IntWalk.i64_in _ (by omega)
      have hyb' : b ≠ W.heap.size + 1 := fun e => hyb e.symm
      go_region_held3 (fun W' => W'.cell? ⟨W.heap.size + 1, 0, none⟩ = some (.int .i64 st)) (first | exact ((HY7.out.far (a := ⟨b, 7, none⟩) hyb (.int .i64 (1 + m.data))).cell 0).trans rfl | exact (((HY7.out.far (a := ⟨b, 7, none⟩) hyb (.int .i64 (1 + m.data))).far (a := ⟨b, 8, none⟩) hyb (.int .i64 (1 + m.data + st))).cell 0).trans rfl | go_keep) (fail)
      clear e1 q6 q7 qf ql y0
      have HQ8 := Lib.hid (((((HQ6.out.set 7 (.int .i64 (1 + m.data))).set 8 (.int .i64 (1 + m.data + st))).to (ds := mcell (.pointer (some ⟨wA.heap.size, 0, none⟩)) A4 c4 A5 o.length c5 (.pointer (some ⟨bm, 0, none⟩)) (.pointer none) (.slice A6 1 c6) (.slice A7 1 c7) (1 + m.data) (1 + m.data + st)) rfl)).grow (drew_below _))
      have HT8 := Lib.hid (((HT6.out.far (a := ⟨b, 7, none⟩) (by simp only; omega) (.int .i64 (1 + m.data))).far (a := ⟨b, 8, none⟩) (by simp only; omega) (.int .i64 (1 + m.data + st))).grow (drew_below _))
      have HY8 := Lib.hid (((HY7.out.far (a := ⟨b, 7, none⟩) hyb (.int .i64 (1 + m.data))).far (a := ⟨b, 8, none⟩) hyb (.int .i64 (1 + m.data + st))).grow (drew_below _))
      have HX8 := Lib.hid (((HX7.out.far (a := ⟨b, 7, none⟩) hxb (.int .i64 (1 + m.data))).far (a := ⟨b, 8, none⟩) hxb (.int .i64 (1 + m.data + st))).grow (drew_below _))
      have HM8 := Lib.hid ((HM7.out.later ((Below.heap_setCell (w7.setCell ⟨b, 7, none⟩ (.int .i64 (1 + m.data))) ⟨b, 8, none⟩ (.int .i64 (1 + m.data + st)) bm (by simp only; omega)).trans (Below.heap_setCell w7 ⟨b, 7, none⟩ (.int .i64 (1 + m.data)) bm (by simp only; omega)))).grow (drew_below _))
      have OC := Lib.hid (OB.out.trans ((((Only.refl [b] w7).setCell (a := ⟨b, 7, none⟩) (by simp) (.int .i64 (1 + m.data))).setCell (a := ⟨b, 8, none⟩) (by simp) (.int .i64 (1 + m.data + st))).trans (Only.of_below (drew_below _))))
      clear HQ6 HT6 HY7 HX7 HM7 OB
      go_upto_region 21 with (fail)
      generalize ((w7.setCell ⟨b, 7, none⟩ (.int .i64 (1 + m.data))).setCell ⟨b, 8, none⟩ (.int .i64 (1 + m.data + st))).drew = w8 at *
      have y1 : w8.cell? ⟨W.heap.size + 1, 1, none⟩ = some (.int .i64 hp) := (HY8.out.cell 1).trans rfl
      have q8 : w8.cell? ⟨b, 8, none⟩ = some (.int .i64 (1 + m.data + st)) := (HQ8.out.cell 8).trans rfl
      have q4 : w8.cell? ⟨b, 4, none⟩ = some (.pointer none) := (HQ8.out.cell 4).trans rfl
      have ql := HQ8.out.lt
      have HYd := Lib.hid (HY8.out.grow (drew_below w8))
      have HQd := Lib.hid (HQ8.out.grow (drew_below w8))
      refine wp_region_held_drew (S := (fun W' => (∃ he, Bx b (mcell (.pointer (some ⟨wA.heap.size, 0, none⟩)) A4 c4 A5 o.length c5 (.pointer (some ⟨bm, 0, none⟩)) he (.slice A6 1 c6) (.slice A7 1 c7) (1 + m.data) (1 + m.data + st)) 79 W') ∧ Bx (W.heap.size + 1) #[.int .i64 st, .int .i64 hp, .int .i64 out] 44 W')) (by kernel_rfl) ⟨⟨_, HQd.out⟩, HYd.out⟩ (fun hHeld => ?_)
      refine wpAnyH_take (i := 0) (v := ?_) rfl (by kernel_rfl) (by kernel_rfl) (by kernel_rfl) (fun _ _ _ h => h) (Or.inl ⟨by rfl, ?_⟩) hHeld ?_
      rotate_left 1
      · intro w9 hS9
        go_simp
        try with_reducible rfl
      try simp only [Act.put]
      try simp only [List.setIfInBounds_toArray]
      refine wpAnyH_take (i := 1) (v := ?_) rfl (by kernel_rfl) (by kernel_rfl) (by kernel_rfl) (fun _ _ _ h => h) (Or.inl ⟨by rfl, ?_⟩) hHeld ?_
      rotate_left 1
      · intro w9 hS9
        go_simp
        try with_reducible rfl
      try simp only [Act.put]
      try simp only [List.setIfInBounds_toArray]
      refine wpAnyH_take (i := 2) (v := ?_) rfl (by kernel_rfl) (by kernel_rfl) (by kernel_rfl) (fun _ _ _ h => h) (Or.inl ⟨by rfl, ?_⟩) hHeld ?_
      rotate_left 1
      · intro w9 hS9
        go_simp
        try with_reducible rfl
      try simp only [Act.put]
      try simp only [List.setIfInBounds_toArray]
      refine wpAnyH_take (i := 3) (v := ?_) rfl (by kernel_rfl) (by kernel_rfl) (by kernel_rfl) (fun _ _ _ h => h) (Or.inl ⟨by rfl, ?_⟩) hHeld ?_
      rotate_left 1
      · intro w9 hS9
        go_simp
        try with_reducible rfl
      try simp only [Act.put]
      try simp only [List.setIfInBounds_toArray]
      refine wpAnyH_take (i := 4) (v := ?_) rfl (by kernel_rfl) (by kernel_rfl) (by kernel_rfl) (fun _ _ _ h => h) (Or.inl ⟨by rfl, ?_⟩) hHeld ?_
      rotate_left 1
      · intro w9 hS9
        obtain ⟨⟨he, hq9⟩, hy9⟩ := hS9
        have l9 : w9.cell? ⟨b, 8, none⟩ = some (.int .i64 (1 + m.data + st)) := (hq9.cell 8).trans rfl
        go_simp
        try with_reducible rfl
      try simp only [Act.put]
      try simp only [List.setIfInBounds_toArray]
      refine wpAnyH_take (i := 5) (v := ?_) rfl (by kernel_rfl) (by kernel_rfl) (by kernel_rfl) (fun _ _ _ h => h) (Or.inl ⟨by rfl, ?_⟩) hHeld ?_
      rotate_left 1
      · intro w9 hS9
        go_simp
        try with_reducible rfl
      try simp only [Act.put]
      try simp only [List.setIfInBounds_toArray]
      refine wpAnyH_take (i := 6) (v := ?_) rfl (by kernel_rfl) (by kernel_rfl) (by kernel_rfl) (fun _ _ _ h => h) (Or.inl ⟨by rfl, ?_⟩) hHeld ?_
      rotate_left 1
      · intro w9 hS9
        obtain ⟨⟨he, hq9⟩, hy9⟩ := hS9
        have l9 : w9.cell? ⟨W.heap.size + 1, 1, none⟩ = some (.int .i64 hp) := (hy9.cell 1).trans rfl
        go_simp
        try with_reducible rfl
      try simp only [Act.put]
      try simp only [List.setIfInBounds_toArray]
      have OD := Lib.hid (OC.out.trans (Only.of_below (drew_below w8)))
      have HTd := Lib.hid (HT8.out.grow (drew_below w8))
      have HXd := Lib.hid (HX8.out.grow (drew_below w8))
      have HMd := Lib.hid (HM8.out.grow (drew_below w8))
      clear HT8 HX8 HM8 OC HQ8 HY8 q4 q8 y1
      generalize w8.drew = w9 at *
      refine wpAnyH_ready (rs := [7]) (by kernel_rfl) (by simp) ?_
      refine AllReadyH.cons rfl (fun K' hK => ?_) AllReadyH.nil
      go_simp
      refine (heapNew_any _ _ (by omega) (by omega) (by omega) (by omega) _).mono ?_
      rintro e w10 ⟨⟨bh, rfl, hh1, hh2⟩, hb10⟩
      have HQ10 := Lib.hid (HQd.out.grow hb10)
      have HY10 := Lib.hid (HYd.out.grow hb10)
      have HT10 := Lib.hid (HTd.out.grow hb10)
      have HX10 := Lib.hid (HXd.out.grow hb10)
      have HM10 := Lib.hid (HMd.out.grow hb10)
      have OE := Lib.hid (OD.out.trans (Only.of_below hb10))
      clear hb10 HQd HYd HTd HXd HMd OD hHeld
      refine hK.out _ _ ⟨⟨_, HQ10.out⟩, HY10.out⟩ (fun hHeld => ?_)
      clear hK K'
      try simp only [Act.put]
      try simp only [List.setIfInBounds_toArray]
      refine wpAnyH_take (i := 8) (v := ?_) rfl (by kernel_rfl) (by kernel_rfl) (by kernel_rfl) (fun _ _ _ h => h) (Or.inl ⟨by rfl, ?_⟩) hHeld ?_
      rotate_left 1
      · intro w9 hS9
        go_simp
        try with_reducible rfl
      try simp only [Act.put]
      try simp only [List.setIfInBounds_toArray]
      refine wpAnyH_take (i := 9) (v := ?_) rfl (by kernel_rfl) (by kernel_rfl) (by kernel_rfl) (fun _ _ _ h => h) (Or.inl ⟨by rfl, ?_⟩) hHeld ?_
      rotate_left 1
      · intro w9 hS9
        go_simp
        try with_reducible rfl
      try simp only [Act.put]
      try simp only [List.setIfInBounds_toArray]
      refine wpAnyH_take (i := 10) (v := ?_) rfl (by kernel_rfl) (by kernel_rfl) (by kernel_rfl) (fun _ _ _ h => h) (Or.inl ⟨by rfl, ?_⟩) hHeld ?_
      rotate_left 1
      · intro w9 hS9
        go_simp
        try with_reducible rfl
      try simp only [Act.put]
      try simp only [List.setIfInBounds_toArray]
      refine wpAnyH_take (i := 11) (v := ?_) rfl (by kernel_rfl) (by kernel_rfl) (by kernel_rfl) (fun _ _ _ h => h) (Or.inl ⟨by rfl, ?_⟩) hHeld ?_
      rotate_left 1
      · intro w9 hS9
        go_simp
        try with_reducible rfl
      try simp only [Act.put]
      try simp only [List.setIfInBounds_toArray]
      refine wpAnyH_take (i := 12) (v := ?_) rfl (by kernel_rfl) (by kernel_rfl) (by kernel_rfl) (fun _ _ _ h => h) (Or.inl ⟨by rfl, ?_⟩) hHeld ?_
      rotate_left 1
      · intro w9 hS9
        go_simp
        try with_reducible rfl
      try simp only [Act.put]
      try simp only [List.setIfInBounds_toArray]
      have q4 : w10.cell? ⟨b, 4, none⟩ = some (.pointer none) := (HQ10.out.cell 4).trans rfl
      have qf := HQ10.out.frozen
      have ql := HQ10.out.lt
      refine wpAnyH_ready (rs := [13]) (by kernel_rfl) (by simp) ?_
      refine AllReadyH.cons rfl (fun K' hK => ?_) AllReadyH.nil
      go_simp
      have HQ11 := Lib.hid ((HQ10.out.set 4 (.pointer (some ⟨bh, 0, none⟩))).to (ds := mcell (.pointer (some ⟨wA.heap.size, 0, none⟩)) A4 c4 A5 o.length c5 (.pointer (some ⟨bm, 0, none⟩)) (.pointer (some ⟨bh, 0, none⟩)) (.slice A6 1 c6) (.slice A7 1 c7) (1 + m.data) (1 + m.data + st)) rfl)
      have HY11 := Lib.hid (HY10.out.far (a := ⟨b, 4, none⟩) hyb (.pointer (some ⟨bh, 0, none⟩)))
      have HX11 := Lib.hid (HX10.out.far (a := ⟨b, 4, none⟩) hxb (.pointer (some ⟨bh, 0, none⟩)))
      have HT11 := Lib.hid (HT10.out.far (a := ⟨b, 4, none⟩) (by simp only; omega) (.pointer (some ⟨bh, 0, none⟩)))
      have HM11 := Lib.hid (HM10.out.later (Below.heap_setCell w10 ⟨b, 4, none⟩ (.pointer (some ⟨bh, 0, none⟩)) bm (by simp only; omega)))
      have OF := Lib.hid (OE.out.setCell (a := ⟨b, 4, none⟩) (by simp) (.pointer (some ⟨bh, 0, none⟩)))
      refine hK.out _ _ ⟨⟨_, HQ11.out⟩, HY11.out⟩ (fun _ => ?_)
      clear hK K' hHeld
      try simp only [Act.put]
      try simp only [List.setIfInBounds_toArray]
      refine wpAnyH_done (by kernel_rfl) ?_ _
      clear HQ10 HY10 HX10 HT10 HM10 OE q4 qf ql
      generalize w10.setCell ⟨b, 4, none⟩ (.pointer (some ⟨bh, 0, none⟩)) = w11 at *
      have x0 : w11.cell? ⟨W.heap.size, 0, none⟩ = some (.slice (some ⟨b0, of, none⟩) 1 c2) := (HX11.out.cell 0).trans rfl
      have xs := HX11.out.lt
      go_wp2_with fail
      clear x0 xs
      have HB11 := Lib.hid (HB3.out.trans ((HBr.out.mono (Nat.le_of_lt xl)).trans (OF.out.below (Nat.le_of_lt (by omega)) (by simp; omega))))
      have d0 := (HB11.out.cell (p := ⟨b0, of, none⟩) hb).trans D0.out
      have d1 := (HB11.out.cell (p := ⟨b0, of + 1, none⟩) hb).trans D1.out
      have d2 := (HB11.out.cell (p := ⟨b0, of + 2, none⟩) hb).trans D2.out
      have d3 := (HB11.out.cell (p := ⟨b0, of + 3, none⟩) hb).trans D3.out
      have d4 := (HB11.out.cell (p := ⟨b0, of + 4, none⟩) hb).trans D4.out
      rw [HIN.out, List.length_nil] at d4
      refine wp_loop_rounds 3 ?_
      rw [rounds_succ]
      go_wp2_with fail
      refine wp_loop_rounds 3 ?_
      rw [rounds_succ]
      go_wp2_with fail
      rw [rounds_succ]
      go_wp2_with fail
      have hbm : bm < w11.heap.size := HM11.out.lt
      have hHAx := Lib.hid (alloc_below w11 (.cells #[.string ⟨m.code.toArray⟩, .slice s.A1 m.procs.length s.c1, .slice s.A2 m.imports.length s.c2, .int .i64 m.data, .slice s.A3 0 s.c3] 73))
      have OG := Lib.hid (OF.out.trans (Only.of_below hHAx.out))
      have HQ12 := Lib.hid (HQ11.out.grow hHAx.out)
      have HT12 := Lib.hid (HT11.out.grow hHAx.out)
      have HM12 := Lib.hid (HM11.out.grow hHAx.out)
      have HB12 := Lib.hid (HB11.out.trans (hHAx.out.mono (by have := HB11.out.size; omega)))
      clear d0 d1 d2 d3 d4 HX11 HY11 HQ11 HT11 HM11 hHAx OF HB11
      generalize w11.alloc _ = w12 at *
      have hz12 := OG.out.size
      have HBm := Lib.hid (HBr.out.trans (OG.out.below (B := b) (Nat.le_of_lt hbA) (by simp)))
      have HMs := Lib.hid (HM2.out.later (show Below b w2 (mask [b, wA.heap.size, bm] w12) from mask_below (HB23.out.trans HBm.out) _ (by simp; omega)) (by rw [hS2.out]; exact Nat.le_refl _))
      have HOs := Lib.hid (HO2.out.later (show Below b w2 (mask [b, wA.heap.size, bm] w12) from mask_below (HB23.out.trans HBm.out) _ (by simp; omega)) (by rw [hS2.out]; exact Nat.le_refl _))
      have HMo := Lib.hid (mask_more (bs := [b, wA.heap.size, bm]) OG.out (by simp) (by simp; omega))
      have HDs := Lib.hid (H6.out.later HMo.out (by rw [mask_size]; exact Nat.le_refl _))
      have HFs := Lib.hid (H7.out.later HMo.out (by rw [mask_size]; exact Nat.le_refl _))
      obtain ⟨K, hK⟩ : ∃ K : MK, K = ⟨[b, wA.heap.size, bm], b, wA.heap.size, bm, bh, m.data.toNat + st + hp, [m], o, A4, c4, A5, c5, A6, c6, A7, c7, [1], [1], 1 + m.data, 1 + m.data + st, out⟩ := ⟨_, rfl⟩
      have HKo := Lib.hid (show KOk K by rw [hK]; exact ⟨by simp, by simp, by simp, by simp only; omega, by simp only; omega, by simp only; omega, by simp, HCK.out, by simp only; omega, by simp only; omega, by simp only; omega, by simp only; omega⟩)
      have HKn := Lib.hid (show NewK K m o st hp out by rw [hK]; exact ⟨rfl, rfl, rfl, rfl, by simp only; omega, rfl⟩)
      have HAt := Lib.hid (show At K (zeroS inp) w12 by
        rw [hK]
        exact ⟨⟨none, 0, HQ12.out, .inl rfl⟩, ⟨0, 0, by decide, HT12.out⟩, HM12.out, HMs.out, HOs.out, HDs.out, HFs.out, by simp; have := HM12.out.lt; have := HT12.out.lt; omega⟩)
      have HKb := Lib.hid (show K.b = b by rw [hK])
      have HKs := Lib.hid (show ∀ x ∈ K.bs, W.heap.size ≤ x by rw [hK]; simp; omega)
      have HKl := Lib.hid (show K.order.length = o.length by rw [hK])
      clear hK HQ12 HT12 HM12 HMs HOs HDs HFs HMo HBm OG
      rw [← HKb.out]
      refine (begins_any K HKo.out (zeroS inp) (Int.le_refl _) (Int.natCast_nonneg _) (by rw [HKl.out]; exact hol) _ HAt.out).mono ?_
      rintro e w13 ⟨rfl, h13, o13⟩
      have HN := Lib.hid (show startS K inp = { trapS (beginsM K (zeroS inp)) with at_ := (trapS (beginsM K (zeroS inp))).next } from rfl)
      have HBk := Lib.hid (show (beginsM K (zeroS inp)).1.steps = 0 from (begins_keep _).1)
      have HB13 := Lib.hid (HB12.out.trans (o13.below (by have := HB12.out.size; omega) HKs.out))
      have H13 := Lib.hid h13
      clear h13 o13 HAt HB12
      generalize beginsM K (zeroS inp) = r at *
      obtain ⟨S1, t⟩ := r
      simp only at H13 HBk
      have c15 := H13.out.c15
      have c12 := H13.out.c12
      have fz := H13.out.fz
      have hl := H13.out.lt
      by_cases ht : t = 0
      · subst ht
        have HN1 := Lib.hid (show startS K inp = { S1 with at_ := S1.next } by rw [HN.out]; rfl)
        have HE := Lib.hid (H13.out.set_at_ HKo.out S1.next)
        clear HN
        go_wp2_with fail
        go_ret2
        refine ⟨K, rfl, HKo.out, HKn.out, by rw [HN1.out]; exact HE.out, HKs.out, HB13.out.setCell (by simp only; have := HKs.out _ HKo.out.hb; omega) _⟩
      · have d := bne_iff_ne.2 (show (t : Int) ≠ 0 by omega)
        have HN1 := Lib.hid (show startS K inp = { S1 with kind := 2, trap := t, at_ := S1.next } by rw [HN.out]; unfold trapS; rw [if_pos (by simpa using ht)])
        have c18 := H13.out.c18
        have c19 := H13.out.c19
        have c20 := H13.out.c20
        clear HN
        have HE := Lib.hid ((((H13.out.set_kind HKo.out 2).set_trap HKo.out t).set_steps HKo.out 0).set_at_ HKo.out S1.next)
        have HBE := Lib.hid ((((HB13.out.setCell (p := ⟨K.b, 18, none⟩) (by simp only; have := HKs.out _ HKo.out.hb; omega) (.int .u8 (2 : Nat))).setCell (p := ⟨K.b, 19, none⟩) (by simp only; have := HKs.out _ HKo.out.hb; omega) (.int .u8 (t : Nat))).setCell (p := ⟨K.b, 20, none⟩) (by simp only; have := HKs.out _ HKo.out.hb; omega) (.int .i64 0)).setCell (p := ⟨K.b, 12, none⟩) (by simp only; have := HKs.out _ HKo.out.hb; omega) (.int .i64 S1.next))
        go_wp2_with fail
        go_ret2
        refine ⟨K, rfl, HKo.out, HKn.out, ?_, HKs.out, HBE.out⟩
        have hE := HE.out
        rw [HN1.out]
        have hs : ({ S1 with kind := 2, trap := t, at_ := S1.next } : St) = { S1 with kind := 2, trap := t, steps := 0, at_ := S1.next } := by rw [← HBk.out]
        rw [hs]
        exact hE
end Go.Proofs.YtpfcojnkflcnoaaGreatDoor
