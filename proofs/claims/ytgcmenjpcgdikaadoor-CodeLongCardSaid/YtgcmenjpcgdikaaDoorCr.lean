/- separatumlaw16.alive: true. -/
import Derived.Test.YtgcmenjpcgdikaaDoorCq
namespace Go.Proofs.YtgcmenjpcgdikaaDoor
open Go.RowKit
set_option maxRecDepth 100000

theorem enc1 : encodeL [(40, [258]), (1, [])] = ([40, 1, 2, 1], 0) := by decide +kernel
theorem enc2 : encodeL [(55, [-3])] = ([55, 255, 253], 0) := by decide +kernel
theorem enc3 : encodeL [(60, [1, 4, 65535, 2, 9])] = ([60, 1, 1, 0, 4, 255, 255, 0, 2, 0, 9], 0) := by decide +kernel
theorem enc4 : encodeL [(99, [])] = ([], 160) := by decide +kernel
theorem enc5 : encodeL [(40, [])] = ([], 2) := by decide +kernel
theorem dec1 : decodeL [40, 1, 2, 1] 0 = ((40, [258]), 3, 0) := by decide +kernel
theorem dec2 : decodeL [55, 255, 253] 1 = ((0, []), 0, 160) := by decide +kernel
theorem all1 : allL [40, 1, 2, 1, 55, 255, 253, 60, 1, 1, 0, 4, 255, 255, 0, 2, 0, 9] = ([(40, [258]), (1, []), (55, [-3]), (60, [1, 4, 65535, 2, 9])], [0, 3, 4, 7], 0) := by decide +kernel
theorem nam1 : nameL 81 = [100, 117, 112, 120] := by decide +kernel
theorem nam2 : nameL 31 = [114, 111, 119] := by decide +kernel
theorem nam3 : nameL 60 = [99, 97, 115, 101] := by decide +kernel
theorem siz1 : (encodeL [(40, [258])]).1.length = 3 := by decide +kernel

/-- Two new blocks: a row of ints, and one instruction over it. -/
theorem lit1 (w : World) (xs : List Int) (n : Nat) (hn : n < 256) (hl : xs.length ≤ 1000) :
    Inss ((w.alloc (.cells (xs.map (Value.int .i64)).toArray 3)).alloc (.cells #[.int .u8 n, .slice (some ⟨w.heap.size, 0, none⟩) xs.length xs.length] 25)) (some ⟨w.heap.size + 1, 0, none⟩) [(n, xs)] := by
  have h := heap_alloc_new (w.alloc (.cells (xs.map (Value.int .i64)).toArray 3)) (.cells #[.int .u8 n, .slice (some ⟨w.heap.size, 0, none⟩) xs.length xs.length] 25)
  rw [World.size_alloc] at h
  refine inss1 h ?_ hn (by omega)
  exact ints_block ((Below.heap_alloc _ _ _ (by simp)).trans (heap_alloc_new w _))
theorem lit0 (w : World) (n : Nat) (hn : n < 256) : Inss (w.alloc (.cells #[.int .u8 n, .slice none 0 0] 25)) (some ⟨w.heap.size, 0, none⟩) [(n, [])] :=
  inss1 (heap_alloc_new w _) (.inl rfl) hn (by simp)
theorem lit2 (w : World) (x : Int) (n m : Nat) (hn : n < 256) (hm : m < 256) :
    Inss ((w.alloc (.cells #[.int .i64 x] 3)).alloc (.cells #[.int .u8 n, .slice (some ⟨w.heap.size, 0, none⟩) 1 1, .int .u8 m, .slice none 0 0] 25)) (some ⟨w.heap.size + 1, 0, none⟩) [(n, [x]), (m, [])] := by
  have h := heap_alloc_new (w.alloc (.cells #[.int .i64 x] 3)) (.cells #[.int .u8 n, .slice (some ⟨w.heap.size, 0, none⟩) 1 1, .int .u8 m, .slice none 0 0] 25)
  rw [World.size_alloc] at h
  refine inss2 (args := [x]) (args' := []) h ?_ hn (by simp) (.inl rfl) hm (by simp)
  exact ints_block (xs := [x]) ((Below.heap_alloc _ _ _ (by simp)).trans (heap_alloc_new w _))
theorem below2 (w : World) (o o' : Obj) {w1 : World} (h : Below ((w.alloc o).alloc o').heap.size ((w.alloc o).alloc o') w1) : Below w.heap.size w w1 :=
  (((Below.refl _ _).alloc (Nat.le_refl _) o).alloc (by simp) o').trans (h.mono (by simp; omega))

theorem facts_later {w5 w8 : World} {b4 bL oL bP oP : Nat} {A : Option Addr} {xs : List Int} {x y z u : Value}
    (h : w5.cell? ⟨b4, 0, none⟩ = some x ∧ w5.cell? ⟨bL, oL, none⟩ = some y ∧ w5.cell? ⟨bL, oL + 1, none⟩ = some z ∧ w5.cell? ⟨bP, oP + 3, none⟩ = some u ∧ Ints w5 A xs) (hb : Below w5.heap.size w5 w8) (h4 : b4 < w5.heap.size) (hL : bL < w5.heap.size) (hP : bP < w5.heap.size) :
    w8.cell? ⟨b4, 0, none⟩ = some x ∧ w8.cell? ⟨bL, oL, none⟩ = some y ∧ w8.cell? ⟨bL, oL + 1, none⟩ = some z ∧ w8.cell? ⟨bP, oP + 3, none⟩ = some u ∧ Ints w8 A xs :=
  ⟨(hb.cell (p := ⟨b4, 0, none⟩) h4).trans h.1, (hb.cell (p := ⟨bL, oL, none⟩) hL).trans h.2.1, (hb.cell (p := ⟨bL, oL + 1, none⟩) hL).trans h.2.2.1, (hb.cell (p := ⟨bP, oP + 3, none⟩) hP).trans h.2.2.2.1, h.2.2.2.2.later hb (Nat.le_refl _)⟩

set_option maxHeartbeats 2000000 in
theorem alive_any (w : World) (ht : Tab w) :
    Calls Tryd.prog 8 #[] w fun e w' => e = .returned (.bool true) ∧ Below w.heap.size w w' := by
  go_enter Tryd.func8, Tryd.ntmps8
  go_wp2_with fail
  refine (encode_any _ [(40, [258]), (1, [])] 2 (by simp) _ ((ht.alloc _).alloc _) (lit2 w 258 40 1 (by omega) (by omega))).mono ?_
  rw [enc1]
  rintro e w1 ⟨rfl, hb1⟩
  have hb1 := below2 _ _ _ hb1
  have ht1 := ht.later hb1
  dsimp only
  go_wp2_with fail
  refine (encode_any _ [(55, [-3])] 1 (by simp) _ ((ht1.alloc _).alloc _) (lit1 w1 [-3] 55 (by omega) (by simp))).mono ?_
  rw [enc2]
  rintro e w2 ⟨rfl, hb2⟩
  have hb2 := below2 _ _ _ hb2
  have ht2 := ht1.later hb2
  dsimp only
  go_wp2_with fail
  refine (encode_any _ [(60, [1, 4, 65535, 2, 9])] 1 (by simp) _ ((ht2.alloc _).alloc _) (lit1 w2 [1, 4, 65535, 2, 9] 60 (by omega) (by simp))).mono ?_
  rw [enc3]
  rintro e w3 ⟨rfl, hb3⟩
  have hb3 := below2 _ _ _ hb3
  have ht3 := ht2.later hb3
  dsimp only
  go_wp2_with fail
  refine (decode_any [40, 1, 2, 1] (by simp) 0 _ ht3).mono ?_
  rw [dec1]
  rintro e w4 ⟨v4, rfl, hv4, hb4⟩
  have ht4 := ht3.later hb4
  obtain ⟨vA, vn, vc, rfl⟩ := own_slice hv4
  clear hv4
  dsimp only
  go_wp2_with fail
  refine (all_any [40, 1, 2, 1, 55, 255, 253, 60, 1, 1, 0, 4, 255, 255, 0, 2, 0, 9] (by simp) _ (ht4.alloc _)).mono ?_
  rw [all1]
  rintro e w5 ⟨v2, v3, rfl, hI⟩
  have hb5 := hI.old
  obtain ⟨L, capL, rfl, hL⟩ := hI.inss
  obtain ⟨P, capP, rfl, hP⟩ := ints_own hI.own
  have hbx := box_below hb5
  have q0 := box_cell hb5 0
  have ht5 := ht4.later hbx.1
  clear hI
  obtain ⟨bL, oL, rfl, hbL, hIns⟩ := hL.at_ (j := 0) (by simp)
  obtain ⟨A, capA, g0, g1, hA, _, _⟩ := hIns
  obtain ⟨bP, oP, rfl, hbP, g2⟩ := hP.at_ (j := 3) (by simp)
  simp at q0 g0 g1 g2 hA
  have Q := Lib.hid (And.intro q0 (And.intro g0 (And.intro g1 (And.intro g2 hA))))
  have HO := Lib.hid ((hb1.trans (hb2.mono hb1.size)).trans ((hb3.trans (hb4.mono hb3.size)).mono (by have := hb1.size; have := hb2.size; omega)))
  have HX := Lib.hid hbx
  clear hL hP hb5 hbx q0 g0 g1 g2 hA ht ht1 ht2 ht3 ht4
  dsimp only
  go_wp2_with fail
  refine (encode_any _ [(99, [])] 1 (by simp) _ (ht5.alloc _) (lit0 w5 99 (by omega))).mono ?_
  rw [enc4]
  rintro e w6 ⟨rfl, hb6⟩
  have hb6 := (box_below hb6).1
  have ht6 := ht5.later hb6
  dsimp only
  go_wp2_with fail
  refine (encode_any _ [(40, [])] 1 (by simp) _ (ht6.alloc _) (lit0 w6 40 (by omega))).mono ?_
  rw [enc5]
  rintro e w7 ⟨rfl, hb7⟩
  have hb7 := (box_below hb7).1
  have ht7 := ht6.later hb7
  dsimp only
  go_wp2_with fail
  refine (decode_any [55, 255, 253] (by simp) 1 _ ht7).mono ?_
  rw [dec2]
  rintro e w8 ⟨v8, rfl, hv8, hb8⟩
  have ht8 := ht7.later hb8
  obtain ⟨vA8, vn8, vc8, rfl⟩ := own_slice hv8
  clear hv8
  have hz5 : w4.heap.size < w5.heap.size := HX.out.2
  have hb58 : Below w5.heap.size w5 w8 := (hb6.trans (hb7.mono hb6.size)).trans (hb8.mono (by have := hb6.size; have := hb7.size; omega))
  obtain ⟨k1, k2, k3, k4, k5⟩ := facts_later Q.out hb58 hz5 hbL hbP
  have hz8 := hb58.size
  have z1 : w4.heap.size < w8.heap.size := by omega
  have z2 : bL < w8.heap.size := by omega
  have z3 : bP < w8.heap.size := by omega
  have HO8 := Lib.hid (HO.out.trans ((HX.out.1.trans (hb58.mono (by omega))).mono (by have := HO.out.size; omega)))
  have K5 := Lib.hid k5
  clear hb58 hz5 hbL hbP hb1 hb2 hb3 hb4 hb6 hb7 hb8 ht5 ht6 ht7 HO HX Q hz8 k5
  dsimp only
  go_wp2_with fail

  refine (name_any 81 (by omega) _ (ht8.alloc _)).mono ?_
  rw [nam1]
  rintro e w9 ⟨rfl, hb9⟩
  go_wp2_with fail
  refine (name_any 31 (by omega) _ ((ht8.alloc _).later hb9)).mono ?_
  rw [nam2]
  rintro e w10 ⟨rfl, hb10⟩
  have ht10 := ((ht8.alloc _).later hb9).later hb10
  have hb10 := hb9.trans (hb10.mono hb9.size)
  clear hb9
  go_wp2_with fail
  refine (name_any 60 (by omega) _ ht10).mono ?_
  rw [nam3]
  rintro e w11 ⟨rfl, hb11⟩
  have ht11 := ht10.later hb11
  have hb11 := hb10.trans (hb11.mono hb10.size)
  clear hb10 ht10 ht8
  have hb11 := (box_below hb11).1
  have m2 : w11.cell? ⟨bL, oL, none⟩ = some (.int .u8 40) := (hb11.cell (p := ⟨bL, oL, none⟩) z2).trans k2
  have m3 : w11.cell? ⟨bL, oL + 1, none⟩ = some (.slice A 1 capA) := (hb11.cell (p := ⟨bL, oL + 1, none⟩) z2).trans k3
  have m5 := Lib.hid (K5.out.later hb11 (Nat.le_refl _))
  have HO11 := Lib.hid (HO8.out.trans (hb11.mono HO8.out.size))
  clear k1 k2 k3 k4 K5 hb11 HO8
  go_wp2_with fail
  refine (size_any 40 (by omega) A [258] capA (by simp) _ ht11 m5.out).mono ?_
  rw [siz1]
  rintro e w12 ⟨rfl, hb12⟩
  go_wp2_with fail
  go_ret
  exact ⟨rfl, HO11.out.trans (hb12.mono HO11.out.size)⟩
end Go.Proofs.YtgcmenjpcgdikaaDoor
